/- The law NatShifts: its walk. -/
import Derived.Test.YtfcfejlffmddnaaGreatDoorM13
import Derived.RangeFuncBox
import Derived.Maps.AppendAt
section
/- The laws on numbers: entry, bounds. -/
namespace Go.Proofs.YtfcfejlffmddnaaGreatDoor
open Go.RowKit
set_option linter.unusedSimpArgs false
set_option linter.unusedVariables false
set_option linter.constructorNameAsVariable false

variable {w0 w : World} {l : List (Option Addr × Nat × Nat × Nat)}
theorem Lists.three (w : World) (A1 : Option Addr) (k1 c1 : Nat) (g1 : List Int) (A2 : Option Addr) (k2 c2 : Nat) (g2 : List Int) (A3 : Option Addr) (k3 c3 : Nat) (g3 : List Int) (i1 : Inp w A1 k1 c1 g1) (i2 : Inp w A2 k2 c2 g2) (i3 : Inp w A3 k3 c3 g3) :
    Lists (w.alloc (.cells #[.slice A1 k1 c1, .slice A2 k2 c2, .slice A3 k3 c3] 23)) w.heap.size 3 [(A1, k1, c1, g1), (A2, k2, c2, g2), (A3, k3, c3, g3)] := by
  refine ⟨rfl, fun j p hp => ?_, fun p hp => ?_⟩
  · rw [Lib.cell_of_heap (World.alloc_heap_new w _)]
    match j, hp with
    | 0, hp => simp at hp; subst hp; rfl
    | 1, hp => simp at hp; subst hp; rfl
    | 2, hp => simp at hp; subst hp; rfl
  · simp only [List.mem_cons, List.not_mem_nil, or_false] at hp
    rcases hp with rfl | rfl | rfl
    · exact ⟨i1.len, i1.lim, i1.rd.alloc _⟩
    · exact ⟨i2.len, i2.lim, i2.rd.alloc _⟩
    · exact ⟨i3.len, i3.lim, i3.rd.alloc _⟩
/-- A list that is a number of at most m elements. -/
def okB (m k : Nat) (g : List Int) : Bool := decide (k ≤ m) && validB g
theorem okB_num {m : Nat} {A : Option Addr} {k c : Nat} {g : List Int} (hi : Inp w A k c g) (h : okB m k g = true) : ∃ x, g = dg x ∧ k ≤ m ∧ k ≤ 1024 ∧ (dg x).length ≤ m := by
  unfold okB at h
  rw [Bool.and_eq_true] at h
  obtain ⟨x, rfl, hx⟩ := validB_num hi.ok h.2
  have h1 := of_decide_eq_true h.1
  have h2 := hi.len
  exact ⟨x, rfl, h1, by omega, by omega⟩
theorem numbers1 (m : Nat) (A1 : Option Addr) (k1 c1 : Nat) (g1 : List Int) (i1 : Inp w A1 k1 c1 g1) (b : Bool) (hb : Hid (okB m k1 g1 = b)) :
    Calls Tryz.prog 39 #[.int .i64 m, .slice (some ⟨w.heap.size, 0, none⟩) 1 1] (w.alloc (.cells #[.slice A1 k1 c1] 23)) fun e w' => e = .returned (.bool b) ∧ Hid (Has w w' []) :=
  (numbers_calls m _ 1 1 _ _ (Lists.one w A1 k1 c1 g1 i1.rd i1.len i1.lim) (by decide) b (Lib.hid (by rw [← hb.out]; simp [okB]))).mono (fun e w' ⟨he, hw⟩ => ⟨he, Lib.hid (hw ▸ (Has.nil w).alloc _)⟩)
theorem numbers2 (m : Nat) (A1 : Option Addr) (k1 c1 : Nat) (g1 : List Int) (A2 : Option Addr) (k2 c2 : Nat) (g2 : List Int) (i1 : Inp w A1 k1 c1 g1) (i2 : Inp w A2 k2 c2 g2) (b : Bool) (hb : Hid ((okB m k1 g1 && okB m k2 g2) = b)) :
    Calls Tryz.prog 39 #[.int .i64 m, .slice (some ⟨w.heap.size, 0, none⟩) 2 2] (w.alloc (.cells #[.slice A1 k1 c1, .slice A2 k2 c2] 23)) fun e w' => e = .returned (.bool b) ∧ Hid (Has w w' []) :=
  (numbers_calls m _ 2 2 _ _ (Lists.two w A1 k1 c1 g1 A2 k2 c2 g2 i1.rd i2.rd i1.len i2.len i1.lim i2.lim) (by decide) b (Lib.hid (by rw [← hb.out]; simp [okB]))).mono (fun e w' ⟨he, hw⟩ => ⟨he, Lib.hid (hw ▸ (Has.nil w).alloc _)⟩)
theorem numbers3 (m : Nat) (A1 : Option Addr) (k1 c1 : Nat) (g1 : List Int) (A2 : Option Addr) (k2 c2 : Nat) (g2 : List Int) (A3 : Option Addr) (k3 c3 : Nat) (g3 : List Int) (i1 : Inp w A1 k1 c1 g1) (i2 : Inp w A2 k2 c2 g2) (i3 : Inp w A3 k3 c3 g3) (b : Bool) (hb : Hid ((okB m k1 g1 && okB m k2 g2 && okB m k3 g3) = b)) :
    Calls Tryz.prog 39 #[.int .i64 m, .slice (some ⟨w.heap.size, 0, none⟩) 3 3] (w.alloc (.cells #[.slice A1 k1 c1, .slice A2 k2 c2, .slice A3 k3 c3] 23)) fun e w' => e = .returned (.bool b) ∧ Hid (Has w w' []) :=
  (numbers_calls m _ 3 3 _ _ (Lists.three w A1 k1 c1 g1 A2 k2 c2 g2 A3 k3 c3 g3 i1 i2 i3) (by decide) b (Lib.hid (by rw [← hb.out]; simp [okB, Bool.and_assoc]))).mono (fun e w' ⟨he, hw⟩ => ⟨he, Lib.hid (hw ▸ (Has.nil w).alloc _)⟩)
theorem Inp.has {A : Option Addr} {k c x : Nat} (h : Inp w A k c (dg x)) (H : Has w0 w l) : Has w0 w ((A, k, c, x) :: l) := H.cons h.rd h.len h.cap h.capm
theorem lenadd {x y i j : Nat} (hx : (dg x).length ≤ i) (hy : (dg y).length ≤ j) : (dg (x + y)).length ≤ i + j + 1 := by
  refine len_of_lt ?_
  have h1 := lt_of_len hx
  have h2 := lt_of_len hy
  have h3 : 4294967296 ^ i ≤ 4294967296 ^ (i + j) := Nat.pow_le_pow_right (by decide) (by omega)
  have h4 : 4294967296 ^ j ≤ 4294967296 ^ (i + j) := Nat.pow_le_pow_right (by decide) (by omega)
  rw [Nat.pow_succ]
  omega
theorem lenmul {x y i j : Nat} (hx : (dg x).length ≤ i) (hy : (dg y).length ≤ j) : (dg (x * y)).length ≤ i + j := by
  refine len_of_lt ?_
  rw [Nat.pow_add]
  exact Nat.mul_lt_mul'' (lt_of_len hx) (lt_of_len hy)
theorem lenle {x y i : Nat} (h : x ≤ y) (hy : (dg y).length ≤ i) : (dg x).length ≤ i := len_of_lt (Nat.lt_of_le_of_lt h (lt_of_len hy))
theorem subO_add {a b : Nat} (h : (dg a).length ≤ 1024) : subO (a + b) b = (0, a) := by
  unfold subO
  rw [if_neg (by omega), Nat.add_sub_cancel, giv_ok h]
theorem giv_le {n i : Nat} (h : (dg n).length ≤ i) (hi : i ≤ 1024) : giv n = (0, n) := giv_ok (Nat.le_trans h hi)
theorem len_zero : (dg 0).length ≤ 0 := by rw [dg_zero]; exact Nat.le_refl _
theorem len_lit {n : Nat} (h : n < 4294967296 ^ 1) : (dg n).length ≤ 1 := len_of_lt h
end Go.Proofs.YtfcfejlffmddnaaGreatDoor
end
section
/- Contracts of the reference: Valid, Cmp. -/
namespace Go.Proofs.YtfcfejlffmddnaaGreatDoor
open Go.RowKit
set_option linter.unusedSimpArgs false
set_option linter.unusedVariables false
set_option linter.constructorNameAsVariable false

set_option maxRecDepth 10000 in
theorem rvalid_calls (A : Option Addr) (c k : Nat) (g : List Int) (w : World) (hk : g.length = k) (hb : k ≤ 9223372036854775807) (hR : Rd .u32 w A g) (b : Bool) (h : Hid (validB g = b)) :
    Calls Tryz.prog 23 #[.slice A k c] w fun e w' => e = .returned (.bool b) ∧ w = w' := by
  have hv := h.out
  unfold validB at hv
  by_cases h1 : k ≤ 1024
  · cases k with
    | zero =>
      have hg : g = [] := List.eq_nil_of_length_eq_zero hk
      obtain rfl : b = true := by rw [← hv, hg]; simp
      clear hv h hR hk hg
      go_enter Tryz.func23, Tryz.ntmps23
      go_wp2
      go_ret
      exact ⟨rfl, rfl⟩
    | succ k =>
      obtain ⟨x, hx⟩ : ∃ x, g[k]? = some x := ⟨_, List.getElem?_eq_getElem (by omega)⟩
      obtain ⟨b1, o, rfl, hcc⟩ := hR (by rintro rfl; simp at hx)
      have hcell := hcc k x hx
      have hl : g.getLast? = some x := by rw [List.getLast?_eq_getElem?, hk]; exact hx
      have hv2 : b = !(x == 0) := by
        rw [← hv, hl, hk]
        by_cases hx0 : x = 0
        · subst hx0; simp
        · rw [show (x == 0) = false from beq_eq_false_iff_ne.2 hx0]
          simp only [Bool.not_false, decide_eq_true_eq]
          exact ⟨h1, fun h => hx0 (Option.some.inj h)⟩
      clear hv h hR hk hcc hx hl
      by_cases hx0 : x = 0
      · subst hx0
        obtain rfl : b = false := by rw [hv2]; rfl
        clear hv2
        go_enter Tryz.func23, Tryz.ntmps23
        go_wp2
        go_ret
        exact ⟨rfl, rfl⟩
      · have hxb : (x == 0) = false := beq_eq_false_iff_ne.2 hx0
        obtain rfl : b = true := by rw [hv2, hxb]; rfl
        clear hv2
        go_enter Tryz.func23, Tryz.ntmps23
        go_wp2
        go_ret
        exact ⟨by simp [hx0, hxb], rfl⟩
  · obtain rfl : b = false := by rw [← hv, hk]; simp [h1]
    clear hv h hR hk
    go_enter Tryz.func23, Tryz.ntmps23
    go_wp2
    go_ret
    exact ⟨rfl, rfl⟩
variable {w0 w : World} {l : List (Option Addr × Nat × Nat × Nat)}
theorem div_top (x m : Nat) : x / 4294967296 ^ m = 4294967296 * (x / 4294967296 ^ (m + 1)) + x / 4294967296 ^ m % 4294967296 := by
  rw [Nat.pow_succ, ← Nat.div_div_eq_div_mul]
  exact (Nat.div_add_mod _ _).symm
theorem cmp_digit {x y m : Nat} (h : x / 4294967296 ^ (m + 1) = y / 4294967296 ^ (m + 1)) :
    (x / 4294967296 ^ m % 4294967296 < y / 4294967296 ^ m % 4294967296 → x < y) ∧ (x / 4294967296 ^ m % 4294967296 = y / 4294967296 ^ m % 4294967296 → x / 4294967296 ^ m = y / 4294967296 ^ m) := by
  have h1 := div_top x m
  have h2 := div_top y m
  rw [h] at h1
  refine ⟨fun h3 => ?_, fun h3 => by omega⟩
  rcases Nat.lt_or_ge x y with h4 | h4
  · exact h4
  · have := Nat.div_le_div_right (c := 4294967296 ^ m) h4
    omega
set_option maxRecDepth 10000 in
set_option maxHeartbeats 1000000 in
theorem rcmp_h (H : Has w0 w l) (A1 : Option Addr) (k1 c1 x : Nat) (A2 : Option Addr) (k2 c2 y : Nat) (h1 : (A1, k1, c1, x) ∈ l) (h2 : (A2, k2, c2, y) ∈ l) (b1 : k1 ≤ 1099511627776) (b2 : k2 ≤ 1099511627776) (r : Int) (hr : Hid (cmpI x y = r)) :
    Calls Tryz.prog 42 #[.slice A1 k1 c1, .slice A2 k2 c2] w fun e w' => e = .returned (.int .i64 r) ∧ w = w' := by
  have e1 := H.len h1
  have e2 := H.len h2
  obtain ⟨N, hN⟩ : ∃ N, max k1 k2 = N := ⟨_, rfl⟩
  have hN2 : max (k1 : Int) (k2 : Int) = (N : Int) := by omega
  have hx0 : x / 4294967296 ^ N = 0 := Nat.div_eq_of_lt (lt_of_len (by omega))
  have hy0 : y / 4294967296 ^ N = 0 := Nat.div_eq_of_lt (lt_of_len (by omega))
  have hA1 := fun (i : Nat) => rat_h H A1 k1 c1 x i h1 b1 _ (Lib.hid (dg_getD x i))
  have hA2 := fun (i : Nat) => rat_h H A2 k2 c2 y i h2 b2 _ (Lib.hid (dg_getD y i))
  have HA1 := Lib.hid hA1
  have HA2 := Lib.hid hA2
  have H0 := Lib.hid (hx0.trans hy0.symm)
  have HN := Lib.hid hN
  have hNb : N ≤ 1099511627776 := by omega
  clear hA1 hA2 hx0 hy0 e1 e2 hN b1 b2 H h1 h2
  go_enter Tryz.func42, Tryz.ntmps42
  go_wp2_with fail
  go_loop [5] (fun v => ∃ m : Nat, m ≤ N ∧ v = .int .i64 ((m : Int) - 1) ∧ Hid (x / 4294967296 ^ m = y / 4294967296 ^ m)) (fun v => (intOf v + 1).toNat)
  case atStart => exact ⟨N, Nat.le_refl _, by first | rfl | (congr 1; omega) | skip, H0⟩
  case round =>
    obtain ⟨m, hm, rfl, he⟩ := hrel
    cases m with
    | zero =>
      obtain rfl : x = y := by simpa using he.out
      obtain rfl : r = 0 := by rw [← hr.out]; unfold cmpI; simp
      clear hr he
      go_wp2_with fail
      go_ret
      exact ⟨rfl, rfl⟩
    | succ m =>
      have hmm : ((m + 1 : Nat) : Int) - 1 = m := by omega
      have hge : decide ((0 : Int) ≤ (m : Int)) = true := decide_eq_true (by omega)
      obtain ⟨xi, hxi⟩ : ∃ xi, x / 4294967296 ^ m % 4294967296 = xi := ⟨_, rfl⟩
      obtain ⟨yi, hyi⟩ : ∃ yi, y / 4294967296 ^ m % 4294967296 = yi := ⟨_, rfl⟩
      have C1 := HA1.out m
      have C2 := HA2.out m
      rw [hxi] at C1
      rw [hyi] at C2
      have D := cmp_digit he.out
      have D2 := cmp_digit he.out.symm
      rw [hxi, hyi] at D D2
      have HD := Lib.hid D
      have HD2 := Lib.hid D2
      clear D D2 he hxi hyi
      rcases Nat.lt_trichotomy xi yi with h | h | h
      · obtain rfl : r = -1 := by rw [← hr.out]; unfold cmpI; rw [if_pos (HD.out.1 h)]
        go_wp2_with fail
        refine C1.mono ?_
        rintro e w' ⟨rfl, rfl⟩
        go_wp2_with fail
        refine C2.mono ?_
        rintro e w' ⟨rfl, rfl⟩
        go_wp2_with fail
        go_ret
        exact ⟨rfl, rfl⟩
      · have HE := Lib.hid (HD.out.2 h)
        subst h
        go_wp2_with fail
        refine C1.mono ?_
        rintro e w' ⟨rfl, rfl⟩
        go_wp2_with fail
        refine C2.mono ?_
        rintro e w' ⟨rfl, rfl⟩
        go_wp2_with fail
        refine C1.mono ?_
        rintro e w' ⟨rfl, rfl⟩
        go_wp2_with fail
        refine C2.mono ?_
        rintro e w' ⟨rfl, rfl⟩
        go_wp2_with fail
        go_round
        case rel => exact ⟨m, by omega, by first | rfl | (congr 1), HE⟩
        case measure => simp [intOf]
      · obtain rfl : r = 1 := by
          have := HD2.out.1 h
          rw [← hr.out]; unfold cmpI; rw [if_neg (by omega), if_pos this]
        have hn : ¬ xi < yi := by omega
        go_wp2_with fail
        refine C1.mono ?_
        rintro e w' ⟨rfl, rfl⟩
        go_wp2_with fail
        refine C2.mono ?_
        rintro e w' ⟨rfl, rfl⟩
        go_wp2_with fail
        refine C1.mono ?_
        rintro e w' ⟨rfl, rfl⟩
        go_wp2_with fail
        refine C2.mono ?_
        rintro e w' ⟨rfl, rfl⟩
        go_wp2_with fail
        go_ret
        exact ⟨rfl, rfl⟩
end Go.Proofs.YtfcfejlffmddnaaGreatDoor
end
section
/- Contracts of the reference: Add. -/
namespace Go.Proofs.YtfcfejlffmddnaaGreatDoor
open Go.RowKit
set_option linter.unusedSimpArgs false
set_option linter.unusedVariables false
set_option linter.constructorNameAsVariable false

theorem own_ge {W : World} {base : Nat} {e : TypeId} {size : Nat} {v : Value} {k : Nat} {xs : List Value} (h : W.ownsRow base e size v k xs) : ∀ j, v.ownBlock = some j → base ≤ j := fun j hj => (h.lt j hj).1
theorem info_u32 : ∃ i, Tryz.prog.info? 57 = some i ∧ i.zero = some (.int .u32 0) ∧ i.size = 1 ∧ i.bytes = 4 := by
  obtain ⟨i, hi, hzz⟩ := Option.map_eq_some_iff.1 info57
  simp only [Prod.mk.injEq] at hzz
  exact ⟨i, hi, hzz.1, hzz.2.1, hzz.2.2⟩
/-- A row of limbs that a loop has made so far. -/
structure Out (w wr : World) (ao : Option Addr) (k cap : Nat) (res : List Int) : Prop where
  row : wr.ownsRow w.heap.size 57 1 (.slice ao k cap) k (res.map (.int .u32))
  bl : Below w.heap.size w wr
  sz : w.heap.size ≤ wr.heap.size
theorem Out.start (w : World) : Out w w none 0 0 [] := ⟨World.ownsRow_nil _ _ _ _, Below.refl _ _, Nat.le_refl _⟩
theorem Out.next {w wr w2 : World} {ao : Option Addr} {k cap : Nat} {res : List Int} (h : Out w wr ao k cap res) {x : Int} {T : TypeId} {ao' : Option Addr} {cap' : Nat}
    (hg : (wr.alloc (.cells #[.int .u32 x] T)).grownBy w2 (Value.slice ao k cap).ownBlock) (ho : w2.ownsRow w.heap.size 57 1 (.slice ao' (k + 1) cap') (k + 1) (res.map (.int .u32) ++ [.int .u32 x])) : Out w w2 ao' (k + 1) cap' (res ++ [x]) := by
  have hs := h.sz
  refine ⟨by simpa using ho, (h.bl.alloc hs _).grown hg (by simp; omega) (fun i hi => own_ge h.row i hi), ?_⟩
  have := hg.size; simp at this; omega
variable {w0 w : World} {l : List (Option Addr × Nat × Nat × Nat)}
/-- The trimmed row is the answer. -/
theorem Out.trim (H : Has w0 w l) {wr : World} {ao : Option Addr} {k cap : Nat} {res : List Int} (h : Out w wr ao k cap res) (hk : res.length = k) (hb : k ≤ 1099511627776) (hd : dgs res) (x : Nat) (hv : vl res = x) (K : Nat) (hK : (dg x).length ≤ K) :
    Calls Tryz.prog 74 #[.slice ao k cap] wr (Made w0 l x K) := by
  obtain ⟨A', c', e, hr, h1, h2⟩ := row_rd hk h.row
  cases e
  refine (rtrim_calls ao cap k res x wr hk h1 h2 hb hd hv hr).mono ?_
  rintro e w' ⟨A2, c2, rfl, hr2, h3, h4, hb2⟩
  exact ⟨A2, _, c2, x, rfl, Lib.hid rfl, hK, ((H.below h.bl).below hb2).cons hr2 rfl h3 h4⟩
set_option maxRecDepth 10000 in
set_option maxHeartbeats 2000000 in
theorem radd_h (H : Has w0 w l) (A1 : Option Addr) (k1 c1 x : Nat) (A2 : Option Addr) (k2 c2 y : Nat) (h1 : (A1, k1, c1, x) ∈ l) (h2 : (A2, k2, c2, y) ∈ l) (b1 : k1 ≤ 10000) (b2 : k2 ≤ 10000) :
    Calls Tryz.prog 43 #[.slice A1 k1 c1, .slice A2 k2 c2] w (Made w0 l (x + y) 10001) := by
  have e1 := Lib.hid (H.len h1)
  have e2 := Lib.hid (H.len h2)
  obtain ⟨i0, hi, hz0, hz1, hz2⟩ := info_u32
  obtain ⟨N, hN⟩ : ∃ N, max k1 k2 = N := ⟨_, rfl⟩
  have hN2 : max (k1 : Int) (k2 : Int) = (N : Int) := by omega
  have hN1 : k1 ≤ N := by omega
  have hN3 : k2 ≤ N := by omega
  have hNb : N ≤ 10000 := by omega
  have HLEN : Hid ((dg (x + y)).length ≤ 10001) := Lib.hid (by have := len_add x y; have := e1.out; have := e2.out; omega)
  have HH := Lib.hid H
  have M1 := Lib.hid h1
  have M2 := Lib.hid h2
  clear hN H h1 h2
  go_enter Tryz.func43, Tryz.ntmps43
  go_wp2_with fail
  go_loopw [5, 6, 7, 8] (fun vo vc vi vs wr => ∃ (i : Nat) (ao : Option Addr) (cap : Nat) (res : List Int) (cy : Int), i ≤ N + 1 ∧ vi = .int .i64 i ∧ vo = .slice ao i cap ∧ vc = .int .u64 cy ∧ 0 ≤ cy ∧ cy ≤ 1 ∧ Hid (AddInv (dg x) (dg y) i res cy) ∧ Hid (Out w wr ao i cap res)) (fun vo vc vi vs wr => N + 1 - (intOf vi).toNat)
  case atStart => exact ⟨0, none, 0, [], 0, by omega, rfl, rfl, rfl, by omega, by omega, Lib.hid (AddInv.start _ _), Lib.hid (Out.start w)⟩
  case round =>
    obtain ⟨i, ao, cap, res, cy, hiN, rfl, rfl, rfl, cy0, cy1, HA, HO⟩ := hrel
    by_cases hlt : i ≤ N
    · obtain ⟨xi, hxi⟩ : ∃ z, (dg x).getD i 0 = z := ⟨_, rfl⟩
      obtain ⟨yi, hyi⟩ : ∃ z, (dg y).getD i 0 = z := ⟨_, rfl⟩
      obtain ⟨x0, x1⟩ := dgs_getD (dgs_dg x) i
      obtain ⟨y0, y1⟩ := dgs_getD (dgs_dg y) i
      rw [hxi] at x0 x1
      rw [hyi] at y0 y1
      have hA := AddInv.step (dgs_dg x) (dgs_dg y) HA.out (xi + yi + cy) (by rw [hxi, hyi]; omega)
      have HAS := Lib.hid hA
      have C1 := rat_h (HH.out.below HO.out.bl) A1 k1 c1 x i M1.out (by omega) xi (Lib.hid hxi)
      have C2 := rat_h (HH.out.below HO.out.bl) A2 k2 c2 y i M2.out (by omega) yi (Lib.hid hyi)
      have hsz := HO.out.sz
      clear hA hxi hyi
      go_wp2_with fail
      refine C1.mono ?_
      rintro e w' ⟨rfl, rfl⟩
      go_wp2_with fail
      refine C2.mono ?_
      rintro e w' ⟨rfl, rfl⟩
      clear C1 C2
      go_wp2_with (at_builtin; refine wpList_append_own _ rfl _ _ 23 rfl w.heap.size 57 i0 (.int .u32 0) 1 4 Tryz.underlying23 hi hz0 hz1 hz2 rfl (by decide) _ _ _ rfl (HO.out.row.alloc _) ⟨wr.heap.size, 0, none⟩ 1 1 [.int .u32 ((xi + yi + cy) % 4294967296)] rfl rfl (cell_one_new _ _ _) (by simp [Value.oneCell']) (by unfold maxLen; omega) (by omega) (by simp; omega) ?_; intro v' w2 hown' hgrow _; have Hg' := Lib.hid (show (wr.alloc (.cells #[.int .u32 ((xi + yi + cy) % 4294967296)] 57)).grownBy w2 (Value.slice ao i cap).ownBlock from hgrow); clear hgrow; obtain ⟨g', cap', rfl⟩ := ownsRow_succ hown'; have HO2 := Lib.hid (HO.out.next Hg'.out hown'); clear hown' Hg')
      go_roundw
      case rel => exact ⟨i + 1, _, cap', _, _, by omega, by go_num, rfl, rfl, by omega, by omega, HAS, HO2⟩
      case measure => simp [intOf]; omega
    · obtain rfl : i = N + 1 := by omega
      have hv := HA.out.fin (by rw [e1.out]; omega) (by rw [e2.out]; omega)
      have HT := Lib.hid (HO.out.trim HH.out HA.out.len (by omega) HA.out.ok (x + y) hv 10001 HLEN.out)
      clear hv
      go_wp2_with fail
      refine HT.out.mono ?_
      rintro e w' ⟨A', k', c', n', rfl, hn, hk, h⟩
      have HF := Lib.hid h
      clear h
      go_wp2_with fail
      go_ret
      exact ⟨A', k', c', n', rfl, hn, hk, HF.out⟩
end Go.Proofs.YtfcfejlffmddnaaGreatDoor
end
section
/- Contracts of the reference: Shr. -/
namespace Go.Proofs.YtfcfejlffmddnaaGreatDoor
open Go.RowKit
set_option linter.unusedSimpArgs false
set_option linter.unusedVariables false
set_option linter.constructorNameAsVariable false

/-- The first digits of a number. -/
structure Digs (m j : Nat) (res : List Int) : Prop where
  len : res.length = j
  dig : ∀ t y, res[t]? = some y → y = ((m / 4294967296 ^ t % 4294967296 : Nat) : Int)
theorem Digs.start (m : Nat) : Digs m 0 [] := ⟨rfl, fun t y h => by simp at h⟩
theorem Digs.next {m j : Nat} {res : List Int} (h : Digs m j res) : Digs m (j + 1) (res ++ [((m / 4294967296 ^ j % 4294967296 : Nat) : Int)]) := by
  refine ⟨by simp [h.len], fun t y hy => ?_⟩
  rw [List.getElem?_append] at hy
  split at hy
  · exact h.dig t y hy
  · rw [List.getElem?_singleton] at hy
    split at hy
    · have : t = j := by have := h.len; omega
      subst this
      injection hy with hy; exact hy.symm
    · cases hy
theorem Digs.ok {m j : Nat} {res : List Int} (h : Digs m j res) : dgs res := fun y hy => by
  obtain ⟨t, ht⟩ := List.mem_iff_getElem?.1 hy
  rw [h.dig t y ht]
  have : m / 4294967296 ^ t % 4294967296 < 4294967296 := Nat.mod_lt _ (by decide)
  omega
theorem Digs.fin {m j : Nat} {res : List Int} (h : Digs m j res) (hm : m < 4294967296 ^ j) : vl res = m := by
  rw [vl_of_digits res m h.dig, h.len, Nat.mod_eq_of_lt hm]
/-- The digit that Shr lays. -/
theorem rshr_digit (a q r j : Nat) (hr : r < 32) :
    ((a / 4294967296 ^ (q + j + 1) % 4294967296 * 4294967296 + a / 4294967296 ^ (q + j) % 4294967296) / 2 ^ r) % 4294967296 = a / 2 ^ (32 * q + r) / 4294967296 ^ j % 4294967296 := by
  obtain ⟨y, hy⟩ : ∃ y, a / 4294967296 ^ (q + j) = y := ⟨_, rfl⟩
  have h1 : a / 4294967296 ^ (q + j + 1) = y / 4294967296 := by rw [Nat.pow_succ, ← Nat.div_div_eq_div_mul, hy]
  have h2 : a / 2 ^ (32 * q + r) / 4294967296 ^ j = y / 2 ^ r := by
    rw [← hy, Nat.div_div_eq_div_mul, Nat.div_div_eq_div_mul]
    congr 1
    rw [Nat.pow_add 2, Nat.pow_add 4294967296, ← pow32 q]
    rw [Nat.mul_assoc, Nat.mul_assoc, Nat.mul_comm (2 ^ r)]
  rw [h1, h2, hy]
  obtain ⟨s, hs⟩ : ∃ s, 32 = r + s := ⟨32 - r, by omega⟩
  have h3 : (4294967296 : Nat) = 2 ^ r * 2 ^ s := by rw [← Nat.pow_add, ← hs]
  have h4 : y / 4294967296 % 4294967296 * 4294967296 + y % 4294967296 = y % (4294967296 * 4294967296) := by omega
  rw [h4]
  have h5 : y % (4294967296 * 4294967296) = y % (2 ^ r * (2 ^ s * 4294967296)) := by rw [← Nat.mul_assoc, ← h3]
  rw [h5, Nat.mod_mul_right_div_self, Nat.mul_comm (2 ^ s), Nat.mod_mul_right_mod]
variable {w0 w : World} {l : List (Option Addr × Nat × Nat × Nat)}
set_option maxRecDepth 10000 in
set_option maxHeartbeats 2000000 in
theorem rshr_h (H : Has w0 w l) (A1 : Option Addr) (k1 c1 x : Nat) (n : Nat) (h1 : (A1, k1, c1, x) ∈ l) (b1 : k1 ≤ 10000) (hn : n ≤ 9223372036854775807) :
    Calls Tryz.prog 52 #[.slice A1 k1 c1, .int .i64 n] w (Made w0 l (x / 2 ^ n) k1) := by
  have e1 := Lib.hid (H.len h1)
  obtain ⟨i0, hi, hz0, hz1, hz2⟩ := info_u32
  obtain ⟨q, hq⟩ : ∃ q, n / 32 = q := ⟨_, rfl⟩
  obtain ⟨r, hr⟩ : ∃ r, n % 32 = r := ⟨_, rfl⟩
  have hnq : n = 32 * q + r := by omega
  have hr32 : r < 32 := by omega
  have x1 : (n : Int).tdiv 32 = (q : Int) := by rw [Int.tdiv_eq_ediv_of_nonneg (by omega)]; omega
  have x2 : (n : Int).tmod 32 = (r : Int) := by rw [Int.tmod_eq_emod_of_nonneg (by omega)]; omega
  have x3 : wrap64 (q : Int) = (q : Int) := by unfold wrap64; omega
  have HLEN : Hid ((dg (x / 2 ^ n)).length ≤ k1) := Lib.hid (lenle (Nat.div_le_self _ _) (Nat.le_of_eq e1.out))
  have HH := Lib.hid H
  have M1 := Lib.hid h1
  have HQ := Lib.hid hnq
  clear H h1 hq hr hnq
  by_cases hqk : k1 ≤ q
  · have HZ : Hid (x / 2 ^ n = 0) := Lib.hid (by
      rw [HQ.out, Nat.pow_add, ← Nat.div_div_eq_div_mul, ← pow32]
      have h1 := lt_of_len (Nat.le_of_eq e1.out)
      have h2 : 4294967296 ^ k1 ≤ 4294967296 ^ q := Nat.pow_le_pow_right (by decide) hqk
      rw [Nat.div_eq_of_lt (Nat.lt_of_lt_of_le h1 h2), Nat.zero_div])
    have hge : decide ((k1 : Int) ≤ (q : Int)) = true := decide_eq_true (by omega)
    go_enter Tryz.func52, Tryz.ntmps52
    go_wp2_with fail
    go_ret
    exact ⟨none, 0, 0, 0, rfl, Lib.hid HZ.out.symm, Nat.zero_le _, HH.out.zero⟩
  · have hge : decide ((k1 : Int) ≤ (q : Int)) = false := decide_eq_false (by omega)
    have hqk' : q < k1 := by omega
    go_enter Tryz.func52, Tryz.ntmps52
    go_wp2_with fail
    go_loopw [5, 6, 7] (fun vo vi vs wr => ∃ (j : Nat) (ao : Option Addr) (cap : Nat) (res : List Int), q + j ≤ k1 ∧ vi = .int .i64 ((q + j : Nat) : Int) ∧ vo = .slice ao j cap ∧ Hid (Digs (x / 2 ^ n) j res) ∧ Hid (Out w wr ao j cap res)) (fun vo vi vs wr => k1 - (intOf vi).toNat)
    case atStart => exact ⟨0, none, 0, [], by omega, rfl, rfl, Lib.hid (Digs.start _), Lib.hid (Out.start w)⟩
    case round =>
      obtain ⟨j, ao, cap, res, hj, rfl, rfl, HA, HO⟩ := hrel
      by_cases hlt : q + j < k1
      · have C1 := rat_h (HH.out.below HO.out.bl) A1 k1 c1 x (q + j + 1) M1.out (by omega) _ (Lib.hid (dg_getD x (q + j + 1)))
        have C2 := rat_h (HH.out.below HO.out.bl) A1 k1 c1 x (q + j) M1.out (by omega) _ (Lib.hid (dg_getD x (q + j)))
        have hD := rshr_digit x q r j hr32
        have hA := HA.out.next
        rw [HQ.out, ← hD] at hA
        obtain ⟨hi1, hh1⟩ : ∃ z, x / 4294967296 ^ (q + j + 1) % 4294967296 = z := ⟨_, rfl⟩
        obtain ⟨lo1, hl1⟩ : ∃ z, x / 4294967296 ^ (q + j) % 4294967296 = z := ⟨_, rfl⟩
        have g1 : hi1 < 4294967296 := by rw [← hh1]; exact Nat.mod_lt _ (by decide)
        have g2 : lo1 < 4294967296 := by rw [← hl1]; exact Nat.mod_lt _ (by decide)
        rw [hh1] at C1 hA
        rw [hl1] at C2 hA
        obtain ⟨y, hy⟩ : ∃ y, (hi1 * 4294967296 + lo1) / 2 ^ r = y := ⟨_, rfl⟩
        rw [hy] at hA
        have f1 : ((hi1 : Int) * 4294967296 + (lo1 : Int)) / 2 ^ r = (y : Int) := by rw [← hy, Int.natCast_ediv, Int.natCast_add, Int.natCast_mul, Int.natCast_pow]; rfl
        have f2 : (y : Int) % 4294967296 = ((y % 4294967296 : Nat) : Int) := by omega
        have HAS := Lib.hid (show Digs (x / 2 ^ n) (j + 1) (res ++ [((y % 4294967296 : Nat) : Int)]) by rw [HQ.out]; exact hA)
        have hsz := HO.out.sz
        have hij : (((q + j : Nat) : Int) + 1) = ((q + j + 1 : Nat) : Int) := by omega
        obtain ⟨X, hX⟩ : ∃ X : Int, ((y % 4294967296 : Nat) : Int) = X := ⟨_, rfl⟩
        rw [hX] at HAS f2
        clear hA hD hh1 hl1 hy hX
        go_wp2_with fail
        refine C1.mono ?_
        rintro e w' ⟨rfl, rfl⟩
        go_wp2_with fail
        refine C2.mono ?_
        rintro e w' ⟨rfl, rfl⟩
        clear C1 C2
        go_wp2_with (at_builtin; refine wpList_append_own _ rfl _ _ 23 rfl w.heap.size 57 i0 (.int .u32 0) 1 4 Tryz.underlying23 hi hz0 hz1 hz2 rfl (by decide) _ _ _ rfl (HO.out.row.alloc _) ⟨wr.heap.size, 0, none⟩ 1 1 [.int .u32 X] rfl rfl (cell_one_new _ _ _) (by simp [Value.oneCell']) (by unfold maxLen; omega) (by omega) (by simp; omega) ?_; intro v' w2 hown' hgrow _; have Hg' := Lib.hid (show (wr.alloc (.cells #[.int .u32 X] 57)).grownBy w2 (Value.slice ao j cap).ownBlock from hgrow); clear hgrow; obtain ⟨g', cap', rfl⟩ := ownsRow_succ hown'; have HO2 := Lib.hid (HO.out.next Hg'.out hown'); clear hown' Hg')
        go_roundw
        case rel => exact ⟨j + 1, _, cap', _, by omega, by first | rfl | go_num | (congr 1), rfl, HAS, HO2⟩
        case measure => simp [intOf]; omega
      · obtain ⟨j', rfl⟩ : ∃ j', j' = j := ⟨_, rfl⟩
        have hkj : k1 = q + j' := by omega
        have hm : x / 2 ^ n < 4294967296 ^ j' := by
          rw [HQ.out, Nat.pow_add, ← Nat.div_div_eq_div_mul, ← pow32]
          refine Nat.lt_of_le_of_lt (Nat.div_le_self _ _) ?_
          refine Nat.div_lt_of_lt_mul ?_
          rw [← Nat.pow_add, ← hkj]
          exact lt_of_len (Nat.le_of_eq e1.out)
        have HT := Lib.hid (HO.out.trim HH.out HA.out.len (by omega) HA.out.ok (x / 2 ^ n) (HA.out.fin hm) k1 HLEN.out)
        have hnl : ¬ q + j' < k1 := hlt
        clear hm hkj
        go_wp2_with fail
        refine HT.out.mono ?_
        rintro e w' ⟨A', k', c', n', rfl, hn, hk, h⟩
        have HF := Lib.hid h
        clear h
        go_wp2_with fail
        go_ret
        exact ⟨A', k', c', n', rfl, hn, hk, HF.out⟩
end Go.Proofs.YtfcfejlffmddnaaGreatDoor
end
section
/- Contracts of the reference: Shl. -/
namespace Go.Proofs.YtfcfejlffmddnaaGreatDoor
open Go.RowKit
set_option linter.unusedSimpArgs false
set_option linter.unusedVariables false
set_option linter.constructorNameAsVariable false

theorem made_take (q c : Nat) (hqc : q ≤ c) : (madeCells #[(.int .u32 0 : Value)] c).toList.take q = (List.replicate q (0 : Int)).map (.int .u32) := by
  apply List.ext_getElem?
  intro i
  rw [List.getElem?_take, List.getElem?_map, List.getElem?_replicate]
  by_cases h : i < q
  · rw [if_pos h, if_pos h]
    have hc : i < c := by omega
    simp [madeCells, hc, Nat.mod_one]
  · rw [if_neg h, if_neg h]; rfl
theorem Out.made (w : World) (q c : Nat) (hqc : q ≤ c) (hc : c ≤ 9223372036854775807) : Out w (w.alloc (.cells (madeCells #[.int .u32 0] c) 57)) (some ⟨w.heap.size, 0, none⟩) q c (List.replicate q 0) :=
  ⟨⟨by simp, .inr ⟨w.heap.size, c, _, rfl, Nat.le_refl _, World.alloc_heap_new w _, hqc, by unfold maxLen; omega, by rw [size_madeCells, Nat.mul_one], by rw [Nat.mul_one]; exact made_take q c hqc⟩⟩,
    (Below.refl _ _).alloc (Nat.le_refl _) _, by simp⟩
theorem make_cap (q c : Nat) (hqc : q ≤ c) (hc : c ≤ 1000000) (W : World) :
    (Instr.makeSlice 23 (.int .i64 (q : Int)) (.int .i64 (c : Int))).run Tryz.prog W = .ok (.slice (some ⟨W.heap.size, 0, none⟩) q c) (W.alloc (.cells (madeCells #[.int .u32 0] c) 57)) := by
  obtain ⟨i0, hi, hz0, hz1, hz2⟩ := info_u32
  have hr := run_make (P := Tryz.prog) W 23 57 i0 (.int .u32 0) Tryz.underlying23 hi hz0 .i64 .i64 q c (by omega) (by omega) (by rw [hz2]; omega) (by omega)
  simp only [Int.toNat_natCast, hz1, Nat.mul_one] at hr
  exact hr
variable {w0 w : World} {l : List (Option Addr × Nat × Nat × Nat)}
set_option maxRecDepth 10000 in
set_option maxHeartbeats 2000000 in
theorem rshl_h (H : Has w0 w l) (A1 : Option Addr) (k1 c1 x : Nat) (n : Nat) (h1 : (A1, k1, c1, x) ∈ l) (b1 : k1 ≤ 10000) (hn : n ≤ 9223372036854775807) (hn0 : k1 ≠ 0 → n ≤ 100000) :
    Calls Tryz.prog 53 #[.slice A1 k1 c1, .int .i64 n] w (Made w0 l (x * 2 ^ n) 20000) := by
  have e1 := Lib.hid (H.len h1)
  by_cases hk : k1 = 0
  · have hx : x = 0 := (dg_nil_iff x).1 (by rw [e1.out, hk])
    subst hk
    subst hx
    have HH := Lib.hid H
    have M1 := Lib.hid h1
    clear H h1
    go_enter Tryz.func53, Tryz.ntmps53
    go_wp2_with fail
    go_ret
    obtain ⟨r1, e, p, q⟩ := HH.out.at M1.out
    exact ⟨A1, 0, c1, 0, rfl, Lib.hid (by rw [Nat.zero_mul]), by omega, HH.out.cons r1 e p q⟩
  · have hn1 := hn0 hk
    have hk0 : ((k1 : Int) == 0) = false := by simp; omega
    obtain ⟨i0, hi, hz0, hz1, hz2⟩ := info_u32
    obtain ⟨q, hq⟩ : ∃ q, n / 32 = q := ⟨_, rfl⟩
    obtain ⟨r, hr⟩ : ∃ r, n % 32 = r := ⟨_, rfl⟩
    have hnq : n = 32 * q + r := by omega
    have hr32 : r < 32 := by omega
    have hq2 : q ≤ 3125 := by omega
    have m1 := make_cap q (q + k1 + 1) (by omega) (by omega)
    rw [show ((q + k1 + 1 : Nat) : Int) = (q : Int) + (k1 : Int) + 1 by omega] at m1
    have HLEN : Hid ((dg (x * 2 ^ n)).length ≤ 20000) := Lib.hid (by
      have h1 := len_mul x (2 ^ n)
      obtain ⟨K, hK⟩ : ∃ K, K = 3126 := ⟨_, rfl⟩
      have h2 : (dg (2 ^ n)).length ≤ K := by
        refine len_of_lt ?_
        rw [pow32]
        exact Nat.pow_lt_pow_right (by decide) (by omega)
      have := e1.out
      omega)
    have x1 : (n : Int).tdiv 32 = (q : Int) := by rw [Int.tdiv_eq_ediv_of_nonneg (by omega)]; omega
    have x2 : (n : Int).tmod 32 = (r : Int) := by rw [Int.tmod_eq_emod_of_nonneg (by omega)]; omega
    have x3 : wrap64 (q : Int) = (q : Int) := by unfold wrap64; omega
    have HH := Lib.hid H
    have M1 := Lib.hid h1
    have HQ := Lib.hid hnq
    obtain ⟨r1, _, _, _⟩ := H.at h1
    obtain ⟨b, o, rfl, hcc⟩ := r1 (by intro h; rw [← List.length_eq_zero_iff, e1.out] at h; exact hk h)
    have HC := Lib.hid hcc
    clear H h1 hq hr hnq r1 hk hcc
    go_enter Tryz.func53, Tryz.ntmps53
    go_wp2_with fail
    go_loopw [5, 6, 7, 8] (fun vo vc vi vs wr => ∃ (i : Nat) (ao : Option Addr) (cap : Nat) (res : List Int) (cy : Int), i ≤ k1 ∧ vi = .int .i64 i ∧ vo = .slice ao (q + i) cap ∧ vc = .int .u64 cy ∧ 0 ≤ cy ∧ cy < 4294967296 ∧ Hid (ShlInv (dg x) q r i res cy) ∧ Hid (Out w wr ao (q + i) cap res)) (fun vo vc vi vs wr => k1 - (intOf vi).toNat)
    case atStart => exact ⟨0, _, _, _, 0, by omega, rfl, rfl, rfl, by omega, by omega, Lib.hid (ShlInv.start _ _ _), Lib.hid (Out.made w q (q + k1 + 1) (by omega) (by omega))⟩
    case round =>
      obtain ⟨i, ao, cap, res, cy, hiN, rfl, rfl, rfl, cy0, cy1, HA, HO⟩ := hrel
      by_cases hlt : i < k1
      · obtain ⟨xi, hxi⟩ : ∃ z, (dg x)[i]? = some z := ⟨_, List.getElem?_eq_getElem (by rw [e1.out]; exact hlt)⟩
        obtain ⟨y0, y1⟩ := dgs_at (dgs_dg x) hxi
        have hcx := HC.out i xi hxi
        have hlt1 := World.block_lt_of_cell? w _ hcx
        rw [← HO.out.bl.cell (p := ⟨b, o + i, none⟩) hlt1] at hcx
        have hA := ShlInv.step (dgs_dg x) HA.out xi hxi (xi * 2 ^ r + cy) (Int.add_comm _ _)
        have hc3 := hA.c1
        have hc4 := hA.c0
        have hp := pow2_32 (show r ≤ 32 by omega)
        have HAS := Lib.hid hA
        have hsz := HO.out.sz
        have hp2 := pow2_pos r
        have hm1 : xi * 2 ^ r ≤ 4294967295 * 4294967296 := Int.mul_le_mul (by omega) hp (by omega) (by omega)
        have hm0 : 0 ≤ xi * 2 ^ r := Int.mul_nonneg y0 (by omega)
        obtain ⟨p, hp3⟩ : ∃ p, xi * 2 ^ r = p := ⟨_, rfl⟩
        rw [hp3] at hm1 hm0 hc3 hc4
        have f1 : IntKind.u64.wrap (xi * 2 ^ r) = p := by rw [hp3]; unfold IntKind.wrap; simp [IntKind.bits, IntKind.signed]; omega
        clear hA hxi
        go_wp2_with (at_builtin; refine wpList_append_own _ rfl _ _ 23 rfl w.heap.size 57 i0 (.int .u32 0) 1 4 Tryz.underlying23 hi hz0 hz1 hz2 rfl (by decide) _ _ _ rfl (HO.out.row.alloc _) ⟨wr.heap.size, 0, none⟩ 1 1 [.int .u32 ((p + cy) % 4294967296)] rfl rfl (cell_one_new _ _ _) (by simp [Value.oneCell']) (by unfold maxLen; omega) (by omega) (by simp; omega) ?_; intro v' w2 hown' hgrow _; have Hg' := Lib.hid (show (wr.alloc (.cells #[.int .u32 ((p + cy) % 4294967296)] 57)).grownBy w2 (Value.slice ao (q + i) cap).ownBlock from hgrow); clear hgrow; obtain ⟨g', cap', rfl⟩ := ownsRow_succ hown'; have HO2 := Lib.hid (HO.out.next Hg'.out hown'); clear hown' Hg')
        go_roundw
        case rel => exact ⟨i + 1, _, cap', _, _, by omega, by go_num, rfl, rfl, hc4, by omega, (by have := HAS; rw [hp3] at this; exact this), HO2⟩
        case measure => simp [intOf]; omega
      · obtain rfl : k1 = i := by omega
        have hsz := HO.out.sz
        have hfin := ShlInv.fin (show ShlInv (dg x) q r (dg x).length res cy by rw [e1.out]; exact HA.out)
        rw [← HQ.out] at hfin
        have hd := dgs_snoc HA.out.ok cy0 cy1
        have hlr : (res ++ [cy]).length = q + k1 + 1 := by rw [List.length_append, HA.out.len]; rfl
        have f2 : cy % 4294967296 = cy := by omega
        have HT := fun (w2 : World) (ao' : Option Addr) (cap' : Nat) (ho : Out w w2 ao' (q + k1 + 1) cap' (res ++ [cy])) => ho.trim HH.out hlr (by omega) hd (x * 2 ^ n) hfin 20000 HLEN.out
        have HTT := Lib.hid HT
        clear HT hfin hd hlr
        go_wp2_with (at_builtin; refine wpList_append_own _ rfl _ _ 23 rfl w.heap.size 57 i0 (.int .u32 0) 1 4 Tryz.underlying23 hi hz0 hz1 hz2 rfl (by decide) _ _ _ rfl (HO.out.row.alloc _) ⟨wr.heap.size, 0, none⟩ 1 1 [.int .u32 cy] rfl rfl (cell_one_new _ _ _) (by simp [Value.oneCell']) (by unfold maxLen; omega) (by omega) (by simp; omega) ?_; intro v' w2 hown' hgrow _; have Hg' := Lib.hid (show (wr.alloc (.cells #[.int .u32 cy] 57)).grownBy w2 (Value.slice ao (q + k1) cap).ownBlock from hgrow); clear hgrow; obtain ⟨g', cap', rfl⟩ := ownsRow_succ hown'; have HO2 := Lib.hid (HO.out.next Hg'.out hown'); clear hown' Hg')
        refine (HTT.out _ _ _ HO2.out).mono ?_
        rintro e w' ⟨A', k', c', n', rfl, hn, hk, h⟩
        have HF := Lib.hid h
        clear h
        go_wp2_with fail
        go_ret
        exact ⟨A', k', c', n', rfl, hn, hk, HF.out⟩
end Go.Proofs.YtfcfejlffmddnaaGreatDoor
end
section
/- The law NatShifts. -/
namespace Go.Proofs.YtfcfejlffmddnaaGreatDoor
open Go.RowKit
set_option linter.unusedSimpArgs false
set_option linter.unusedVariables false
set_option linter.constructorNameAsVariable false

variable {w0 w : World} {l : List (Option Addr × Nat × Nat × Nat)}
theorem shlL_bad {g1 : List Int} {n : Int} (h : validB g1 = false) : shlL g1 n = (1, 0) := by unfold shlL; rw [h]; rfl
theorem shrL_bad {g1 : List Int} {n : Int} (h : validB g1 = false) : shrL g1 n = (1, 0) := by unfold shrL; rw [h]; rfl
theorem shlO_neg {a : Nat} {n : Int} (h : n < 0) : shlO a n = (1, 0) := if_pos h
theorem shrO_neg {a : Nat} {n : Int} (h : n < 0) : shrO a n = (1, 0) := if_pos h
theorem shlO_nat (a m : Nat) : shlO a (m : Int) = giv (a * 2 ^ m) := by unfold shlO; rw [if_neg (by omega), Int.toNat_natCast]
theorem shrO_nat (a m : Nat) : shrO a (m : Int) = giv (a / 2 ^ m) := by unfold shrO; rw [if_neg (by omega), Int.toNat_natCast]
theorem shl_over {a m : Nat} (ha : 0 < a) (h : 32768 < m) : giv (a * 2 ^ m) = (2, 0) := giv_no (len_great (e := m) (by omega) (Nat.le_mul_of_pos_left _ ha))
theorem wf_i64 {n : Int} (h : (Lit.int .i64 n).wf = true) : n ≤ 9223372036854775807 := by
  simp [Lit.wf, IntKind.min, IntKind.max, IntKind.signed, IntKind.bits] at h
  omega
set_option maxRecDepth 100000 in
set_option maxHeartbeats 4000000 in
theorem shifts_calls (w : World) (hT : Tabs w) (A1 : Option Addr) (k1 c1 : Nat) (g1 : List Int) (i1 : Inp w A1 k1 c1 g1) (n : Int) (wn : (Lit.int .i64 n).wf = true) :
    Calls Tryz.prog 15 #[.slice A1 k1 c1, .int .i64 n] w (True1 w) := by
  have HT := Lib.hid hT
  have I1 := Lib.hid i1
  have H0 := Lib.hid (Has.nil w)
  clear hT i1
  have hnb := wf_i64 wn
  clear wn
  by_cases q1 : k1 ≤ 1100
  case neg =>
    go_enter Tryz.func15, Tryz.ntmps15
    go_wp2_with fail
    refine (light_calls A1 k1 c1 1100 w false (Lib.hid (decide_eq_false q1))).mono ?_
    rintro e w' ⟨rfl, rfl⟩
    go_wp2_with fail
    refine (sanity_at H0 HT).mono ?_
    rintro e w1 ⟨rfl, H1⟩
    clear H0
    go_wp2_with fail
    go_ret
    exact ⟨rfl, H1.out.b⟩
  cases v1 : validB g1
  case false =>
    go_enter Tryz.func15, Tryz.ntmps15
    go_wp2_with fail
    refine (light_calls A1 k1 c1 1100 w true (Lib.hid (decide_eq_true q1))).mono ?_
    rintro e w' ⟨rfl, rfl⟩
    go_wp2_with fail
    refine (Shl_l H0.out A1 k1 c1 g1 (I1.out.below H0.out.b) n 1 (0) (Lib.hid (shlL_bad v1))).mono ?_
    rintro e w1 ⟨B1, j1, d1, rfl, b1, h⟩
    have H1 := Lib.hid h
    clear h H0
    go_wp2_with fail
    refine (Shr_l H1.out A1 k1 c1 g1 (I1.out.below H1.out.b) n 1 (0) (Lib.hid (shrL_bad v1))).mono ?_
    rintro e w2 ⟨B2, j2, d2, rfl, b2, h⟩
    have H2 := Lib.hid h
    clear h H1
    obtain rfl := H2.out.none (.tail _ (.head _))
    obtain rfl := H2.out.none (.head _)
    go_wp2_with fail
    refine (rvalid_calls A1 c1 k1 g1 _ I1.out.len I1.out.lim (I1.out.rd.below H2.out.b) false (Lib.hid v1)).mono ?_
    rintro e w' ⟨rfl, rfl⟩
    go_wp2_with fail
    refine (sanity_at H2 HT).mono ?_
    rintro e w3 ⟨rfl, H3⟩
    clear H2
    go_wp2_with fail
    refine (refused_calls B1 d1 1 1 _ true (Lib.hid (by simp))).mono ?_
    rintro e w' ⟨rfl, rfl⟩
    go_wp2_with fail
    refine (refused_calls B2 d2 1 1 _ true (Lib.hid (by simp))).mono ?_
    rintro e w' ⟨rfl, rfl⟩
    go_wp2_with fail
    go_ret
    exact ⟨rfl, H3.out.b⟩
  obtain ⟨a, rfl, e1, _⟩ := I1.out.num H0.out v1
  have HV := Lib.hid v1
  clear v1
  by_cases hn : n < 0
  case pos =>
    have HN := Lib.hid hn
    go_enter Tryz.func15, Tryz.ntmps15
    go_wp2_with fail
    refine (light_calls A1 k1 c1 1100 w true (Lib.hid (decide_eq_true q1))).mono ?_
    rintro e w' ⟨rfl, rfl⟩
    have h := ((I1.out.below H0.out.b).has (H0.out))
    have H1 := Lib.hid h
    clear h H0
    go_wp2_with fail
    refine (Shl_x H1.out A1 k1 c1 (a) (n) (.head _) e1 1 0 (Lib.hid (shlO_neg HN.out))).mono ?_
    rintro e w2 ⟨B2, j2, d2, rfl, b2, h⟩
    have H2 := Lib.hid h
    clear h H1
    go_wp2_with fail
    refine (Shr_x H2.out A1 k1 c1 (a) (n) (.tail _ (.head _)) e1 1 0 (Lib.hid (shrO_neg HN.out))).mono ?_
    rintro e w3 ⟨B3, j3, d3, rfl, b3, h⟩
    have H3 := Lib.hid h
    clear h H2
    obtain rfl := H3.out.none (.tail _ (.head _))
    obtain rfl := H3.out.none (.head _)
    go_wp2_with fail
    refine (rvalid_calls A1 c1 k1 (dg a) _ I1.out.len I1.out.lim (I1.out.rd.below H3.out.b) true HV).mono ?_
    rintro e w' ⟨rfl, rfl⟩
    go_wp2_with fail
    refine (sanity_at H3 HT).mono ?_
    rintro e w4 ⟨rfl, H4⟩
    clear H3
    go_wp2_with fail
    refine (refused_calls B2 d2 1 1 _ true (Lib.hid (by simp))).mono ?_
    rintro e w' ⟨rfl, rfl⟩
    go_wp2_with fail
    refine (refused_calls B3 d3 1 1 _ true (Lib.hid (by simp))).mono ?_
    rintro e w' ⟨rfl, rfl⟩
    go_wp2_with fail
    go_ret
    exact ⟨rfl, H4.out.b⟩
  obtain ⟨m, rfl⟩ : ∃ m : Nat, n = m := ⟨n.toNat, by omega⟩
  have hmb : m ≤ 9223372036854775807 := by omega
  clear hn hnb
  obtain ⟨y, z, hz⟩ : ∃ y z, Hid (giv (a / 2 ^ m) = (y, z)) := ⟨_, _, Lib.hid rfl⟩
  by_cases hk : 0 < k1 ∧ 32768 < m
  case pos =>
    have ha : 0 < a := by
      rcases Nat.eq_zero_or_pos a with h | h
      · have h2 := I1.out.len; rw [h, dg_zero] at h2; exact absurd h2 (by have := hk.1; simp; omega)
      · exact h
    have HB := Lib.hid (shl_over ha hk.2)
    obtain ⟨hk1, hk2⟩ := hk
    clear ha
    go_enter Tryz.func15, Tryz.ntmps15
    go_wp2_with fail
    refine (light_calls A1 k1 c1 1100 w true (Lib.hid (decide_eq_true q1))).mono ?_
    rintro e w' ⟨rfl, rfl⟩
    have h := ((I1.out.below H0.out.b).has (H0.out))
    have H1 := Lib.hid h
    clear h H0
    go_wp2_with fail
    refine (Shl_x H1.out A1 k1 c1 (a) (m) (.head _) e1 2 0 (Lib.hid ((shlO_nat a m).trans HB.out))).mono ?_
    rintro e w2 ⟨B2, j2, d2, rfl, b2, h⟩
    have H2 := Lib.hid h
    clear h H1
    go_wp2_with fail
    refine (Shr_x H2.out A1 k1 c1 (a) (m) (.tail _ (.head _)) e1 y z (Lib.hid ((shrO_nat a m).trans hz.out))).mono ?_
    rintro e w3 ⟨B3, j3, d3, rfl, b3, h⟩
    have H3 := Lib.hid h
    clear h H2
    obtain rfl := H3.out.none (.tail _ (.head _))
    go_wp2_with fail
    refine (rvalid_calls A1 c1 k1 (dg a) _ I1.out.len I1.out.lim (I1.out.rd.below H3.out.b) true HV).mono ?_
    rintro e w' ⟨rfl, rfl⟩
    go_wp2_with fail
    refine (sanity_at H3 HT).mono ?_
    rintro e w4 ⟨rfl, H4⟩
    clear H3
    go_wp2_with fail
    refine (refused_calls B2 d2 2 2 _ true (Lib.hid (by simp))).mono ?_
    rintro e w' ⟨rfl, rfl⟩
    go_wp2_with fail
    refine (rshr_h H4.out A1 k1 c1 (a) m (.tail _ (.tail _ (.head _))) (Nat.le_trans e1 (by decide)) hmb).mono ?_
    rintro e w5 ⟨B5, j5, d5, n5, rfl, hn5, b5, h⟩
    rw [hn5.out] at h
    clear hn5
    have H5 := Lib.hid h
    clear h H4
    go_wp2_with fail
    refine (is_giv H5.out B3 j3 d3 (z) B5 j5 d5 (a / 2 ^ m) y (.tail _ (.head _)) (.head _) b3 (hz) true rfl).mono ?_
    rintro e w6 ⟨rfl, h⟩
    have H6 := Lib.hid h
    clear h H5
    go_wp2_with fail
    go_ret
    exact ⟨rfl, H6.out.b⟩
  obtain ⟨u, v, hu⟩ : ∃ u v, Hid (giv (a * 2 ^ m) = (u, v)) := ⟨_, _, Lib.hid rfl⟩
  have HKM : Hid (k1 ≠ 0 → m ≤ 100000) := Lib.hid (fun h => by omega)
  have hs : k1 = 0 ∨ (0 < k1 ∧ m ≤ 32768) := by omega
  clear hk
  rcases hs with hs | ⟨hs1, hs2⟩
  case inl =>
    subst hs
    go_enter Tryz.func15, Tryz.ntmps15
    go_wp2_with fail
    refine (light_calls A1 0 c1 1100 w true (Lib.hid (decide_eq_true q1))).mono ?_
    rintro e w' ⟨rfl, rfl⟩
    have h := ((I1.out.below H0.out.b).has (H0.out))
    have H1 := Lib.hid h
    clear h H0
    go_wp2_with fail
    refine (Shl_x H1.out A1 0 c1 (a) (m) (.head _) e1 u v (Lib.hid ((shlO_nat a m).trans hu.out))).mono ?_
    rintro e w2 ⟨B2, j2, d2, rfl, b2, h⟩
    have H2 := Lib.hid h
    clear h H1
    go_wp2_with fail
    refine (Shr_x H2.out A1 0 c1 (a) (m) (.tail _ (.head _)) e1 y z (Lib.hid ((shrO_nat a m).trans hz.out))).mono ?_
    rintro e w3 ⟨B3, j3, d3, rfl, b3, h⟩
    have H3 := Lib.hid h
    clear h H2
    go_wp2_with fail
    refine (rvalid_calls A1 c1 0 (dg a) _ I1.out.len I1.out.lim (I1.out.rd.below H3.out.b) true HV).mono ?_
    rintro e w' ⟨rfl, rfl⟩
    go_wp2_with fail
    refine (sanity_at H3 HT).mono ?_
    rintro e w4 ⟨rfl, H4⟩
    clear H3
    go_wp2_with fail
    refine (rshl_h H4.out A1 0 c1 (a) m (.tail _ (.tail _ (.head _))) (Nat.le_trans e1 (by decide)) hmb HKM.out).mono ?_
    rintro e w5 ⟨B5, j5, d5, n5, rfl, hn5, b5, h⟩
    rw [hn5.out] at h
    clear hn5
    have H5 := Lib.hid h
    clear h H4
    go_wp2_with fail
    refine (is_giv H5.out B2 j2 d2 (v) B5 j5 d5 (a * 2 ^ m) u (.tail _ (.tail _ (.head _))) (.head _) b2 (hu) true rfl).mono ?_
    rintro e w6 ⟨rfl, h⟩
    have H6 := Lib.hid h
    clear h H5
    go_wp2_with fail
    refine (rshr_h H6.out A1 0 c1 (a) m (.tail _ (.tail _ (.tail _ (.head _)))) (Nat.le_trans e1 (by decide)) hmb).mono ?_
    rintro e w7 ⟨B7, j7, d7, n7, rfl, hn7, b7, h⟩
    rw [hn7.out] at h
    clear hn7
    have H7 := Lib.hid h
    clear h H6
    go_wp2_with fail
    refine (is_giv H7.out B3 j3 d3 (z) B7 j7 d7 (a / 2 ^ m) y (.tail _ (.tail _ (.head _))) (.head _) b3 (hz) true rfl).mono ?_
    rintro e w8 ⟨rfl, h⟩
    have H8 := Lib.hid h
    clear h H7
    go_wp2_with fail
    go_ret
    exact ⟨rfl, H8.out.b⟩
  case inr =>
    go_enter Tryz.func15, Tryz.ntmps15
    go_wp2_with fail
    refine (light_calls A1 k1 c1 1100 w true (Lib.hid (decide_eq_true q1))).mono ?_
    rintro e w' ⟨rfl, rfl⟩
    have h := ((I1.out.below H0.out.b).has (H0.out))
    have H1 := Lib.hid h
    clear h H0
    go_wp2_with fail
    refine (Shl_x H1.out A1 k1 c1 (a) (m) (.head _) e1 u v (Lib.hid ((shlO_nat a m).trans hu.out))).mono ?_
    rintro e w2 ⟨B2, j2, d2, rfl, b2, h⟩
    have H2 := Lib.hid h
    clear h H1
    go_wp2_with fail
    refine (Shr_x H2.out A1 k1 c1 (a) (m) (.tail _ (.head _)) e1 y z (Lib.hid ((shrO_nat a m).trans hz.out))).mono ?_
    rintro e w3 ⟨B3, j3, d3, rfl, b3, h⟩
    have H3 := Lib.hid h
    clear h H2
    go_wp2_with fail
    refine (rvalid_calls A1 c1 k1 (dg a) _ I1.out.len I1.out.lim (I1.out.rd.below H3.out.b) true HV).mono ?_
    rintro e w' ⟨rfl, rfl⟩
    go_wp2_with fail
    refine (sanity_at H3 HT).mono ?_
    rintro e w4 ⟨rfl, H4⟩
    clear H3
    go_wp2_with fail
    refine (rshl_h H4.out A1 k1 c1 (a) m (.tail _ (.tail _ (.head _))) (Nat.le_trans e1 (by decide)) hmb HKM.out).mono ?_
    rintro e w5 ⟨B5, j5, d5, n5, rfl, hn5, b5, h⟩
    rw [hn5.out] at h
    clear hn5
    have H5 := Lib.hid h
    clear h H4
    go_wp2_with fail
    refine (is_giv H5.out B2 j2 d2 (v) B5 j5 d5 (a * 2 ^ m) u (.tail _ (.tail _ (.head _))) (.head _) b2 (hu) true rfl).mono ?_
    rintro e w6 ⟨rfl, h⟩
    have H6 := Lib.hid h
    clear h H5
    go_wp2_with fail
    refine (rshr_h H6.out A1 k1 c1 (a) m (.tail _ (.tail _ (.tail _ (.head _)))) (Nat.le_trans e1 (by decide)) hmb).mono ?_
    rintro e w7 ⟨B7, j7, d7, n7, rfl, hn7, b7, h⟩
    rw [hn7.out] at h
    clear hn7
    have H7 := Lib.hid h
    clear h H6
    go_wp2_with fail
    refine (is_giv H7.out B3 j3 d3 (z) B7 j7 d7 (a / 2 ^ m) y (.tail _ (.tail _ (.head _))) (.head _) b3 (hz) true rfl).mono ?_
    rintro e w8 ⟨rfl, h⟩
    have H8 := Lib.hid h
    clear h H7
    go_wp2_with fail
    go_ret
    exact ⟨rfl, H8.out.b⟩
end Go.Proofs.YtfcfejlffmddnaaGreatDoor
end
