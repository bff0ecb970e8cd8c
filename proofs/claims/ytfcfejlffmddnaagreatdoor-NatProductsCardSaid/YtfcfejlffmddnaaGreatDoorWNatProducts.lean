/- The law NatProducts: its walk. -/
import Derived.Test.YtfcfejlffmddnaaGreatDoorM13
import Derived.RangeFuncBox
import Derived.Maps.AppendAt
section
/- The laws on numbers: entry, bounds. -/
namespace Go.Proofs.YtfcfejlffmddnaaGreatDoor
open Go.RowKit
set_option linter.unusedSimpArgs false
set_option linter.unusedVariables false
set_option linter.constructorNameAsVariable false

variable {w0 w : World} {l : List (Option Addr × Nat × Nat × Nat)}
theorem Lists.three (w : World) (A1 : Option Addr) (k1 c1 : Nat) (g1 : List Int) (A2 : Option Addr) (k2 c2 : Nat) (g2 : List Int) (A3 : Option Addr) (k3 c3 : Nat) (g3 : List Int) (i1 : Inp w A1 k1 c1 g1) (i2 : Inp w A2 k2 c2 g2) (i3 : Inp w A3 k3 c3 g3) :
    Lists (w.alloc (.cells #[.slice A1 k1 c1, .slice A2 k2 c2, .slice A3 k3 c3] 23)) w.heap.size 3 [(A1, k1, c1, g1), (A2, k2, c2, g2), (A3, k3, c3, g3)] := by
  refine ⟨rfl, fun j p hp => ?_, fun p hp => ?_⟩
  · rw [Lib.cell_of_heap (World.alloc_heap_new w _)]
    match j, hp with
    | 0, hp => simp at hp; subst hp; rfl
    | 1, hp => simp at hp; subst hp; rfl
    | 2, hp => simp at hp; subst hp; rfl
  · simp only [List.mem_cons, List.not_mem_nil, or_false] at hp
    rcases hp with rfl | rfl | rfl
    · exact ⟨i1.len, i1.lim, i1.rd.alloc _⟩
    · exact ⟨i2.len, i2.lim, i2.rd.alloc _⟩
    · exact ⟨i3.len, i3.lim, i3.rd.alloc _⟩
/-- A list that is a number of at most m elements. -/
def okB (m k : Nat) (g : List Int) : Bool := decide (k ≤ m) && validB g
theorem okB_num {m : Nat} {A : Option Addr} {k c : Nat} {g : List Int} (hi : Inp w A k c g) (h : okB m k g = true) : ∃ x, g = dg x ∧ k ≤ m ∧ k ≤ 1024 ∧ (dg x).length ≤ m := by
  unfold okB at h
  rw [Bool.and_eq_true] at h
  obtain ⟨x, rfl, hx⟩ := validB_num hi.ok h.2
  have h1 := of_decide_eq_true h.1
  have h2 := hi.len
  exact ⟨x, rfl, h1, by omega, by omega⟩
theorem numbers1 (m : Nat) (A1 : Option Addr) (k1 c1 : Nat) (g1 : List Int) (i1 : Inp w A1 k1 c1 g1) (b : Bool) (hb : Hid (okB m k1 g1 = b)) :
    Calls Tryz.prog 39 #[.int .i64 m, .slice (some ⟨w.heap.size, 0, none⟩) 1 1] (w.alloc (.cells #[.slice A1 k1 c1] 23)) fun e w' => e = .returned (.bool b) ∧ Hid (Has w w' []) :=
  (numbers_calls m _ 1 1 _ _ (Lists.one w A1 k1 c1 g1 i1.rd i1.len i1.lim) (by decide) b (Lib.hid (by rw [← hb.out]; simp [okB]))).mono (fun e w' ⟨he, hw⟩ => ⟨he, Lib.hid (hw ▸ (Has.nil w).alloc _)⟩)
theorem numbers2 (m : Nat) (A1 : Option Addr) (k1 c1 : Nat) (g1 : List Int) (A2 : Option Addr) (k2 c2 : Nat) (g2 : List Int) (i1 : Inp w A1 k1 c1 g1) (i2 : Inp w A2 k2 c2 g2) (b : Bool) (hb : Hid ((okB m k1 g1 && okB m k2 g2) = b)) :
    Calls Tryz.prog 39 #[.int .i64 m, .slice (some ⟨w.heap.size, 0, none⟩) 2 2] (w.alloc (.cells #[.slice A1 k1 c1, .slice A2 k2 c2] 23)) fun e w' => e = .returned (.bool b) ∧ Hid (Has w w' []) :=
  (numbers_calls m _ 2 2 _ _ (Lists.two w A1 k1 c1 g1 A2 k2 c2 g2 i1.rd i2.rd i1.len i2.len i1.lim i2.lim) (by decide) b (Lib.hid (by rw [← hb.out]; simp [okB]))).mono (fun e w' ⟨he, hw⟩ => ⟨he, Lib.hid (hw ▸ (Has.nil w).alloc _)⟩)
theorem numbers3 (m : Nat) (A1 : Option Addr) (k1 c1 : Nat) (g1 : List Int) (A2 : Option Addr) (k2 c2 : Nat) (g2 : List Int) (A3 : Option Addr) (k3 c3 : Nat) (g3 : List Int) (i1 : Inp w A1 k1 c1 g1) (i2 : Inp w A2 k2 c2 g2) (i3 : Inp w A3 k3 c3 g3) (b : Bool) (hb : Hid ((okB m k1 g1 && okB m k2 g2 && okB m k3 g3) = b)) :
    Calls Tryz.prog 39 #[.int .i64 m, .slice (some ⟨w.heap.size, 0, none⟩) 3 3] (w.alloc (.cells #[.slice A1 k1 c1, .slice A2 k2 c2, .slice A3 k3 c3] 23)) fun e w' => e = .returned (.bool b) ∧ Hid (Has w w' []) :=
  (numbers_calls m _ 3 3 _ _ (Lists.three w A1 k1 c1 g1 A2 k2 c2 g2 A3 k3 c3 g3 i1 i2 i3) (by decide) b (Lib.hid (by rw [← hb.out]; simp [okB, Bool.and_assoc]))).mono (fun e w' ⟨he, hw⟩ => ⟨he, Lib.hid (hw ▸ (Has.nil w).alloc _)⟩)
theorem Inp.has {A : Option Addr} {k c x : Nat} (h : Inp w A k c (dg x)) (H : Has w0 w l) : Has w0 w ((A, k, c, x) :: l) := H.cons h.rd h.len h.cap h.capm
theorem lenadd {x y i j : Nat} (hx : (dg x).length ≤ i) (hy : (dg y).length ≤ j) : (dg (x + y)).length ≤ i + j + 1 := by
  refine len_of_lt ?_
  have h1 := lt_of_len hx
  have h2 := lt_of_len hy
  have h3 : 4294967296 ^ i ≤ 4294967296 ^ (i + j) := Nat.pow_le_pow_right (by decide) (by omega)
  have h4 : 4294967296 ^ j ≤ 4294967296 ^ (i + j) := Nat.pow_le_pow_right (by decide) (by omega)
  rw [Nat.pow_succ]
  omega
theorem lenmul {x y i j : Nat} (hx : (dg x).length ≤ i) (hy : (dg y).length ≤ j) : (dg (x * y)).length ≤ i + j := by
  refine len_of_lt ?_
  rw [Nat.pow_add]
  exact Nat.mul_lt_mul'' (lt_of_len hx) (lt_of_len hy)
theorem lenle {x y i : Nat} (h : x ≤ y) (hy : (dg y).length ≤ i) : (dg x).length ≤ i := len_of_lt (Nat.lt_of_le_of_lt h (lt_of_len hy))
theorem subO_add {a b : Nat} (h : (dg a).length ≤ 1024) : subO (a + b) b = (0, a) := by
  unfold subO
  rw [if_neg (by omega), Nat.add_sub_cancel, giv_ok h]
theorem giv_le {n i : Nat} (h : (dg n).length ≤ i) (hi : i ≤ 1024) : giv n = (0, n) := giv_ok (Nat.le_trans h hi)
theorem len_zero : (dg 0).length ≤ 0 := by rw [dg_zero]; exact Nat.le_refl _
theorem len_lit {n : Nat} (h : n < 4294967296 ^ 1) : (dg n).length ≤ 1 := len_of_lt h
end Go.Proofs.YtfcfejlffmddnaaGreatDoor
end
section
/- Contracts of the reference: Valid, Cmp. -/
namespace Go.Proofs.YtfcfejlffmddnaaGreatDoor
open Go.RowKit
set_option linter.unusedSimpArgs false
set_option linter.unusedVariables false
set_option linter.constructorNameAsVariable false

set_option maxRecDepth 10000 in
theorem rvalid_calls (A : Option Addr) (c k : Nat) (g : List Int) (w : World) (hk : g.length = k) (hb : k ≤ 9223372036854775807) (hR : Rd .u32 w A g) (b : Bool) (h : Hid (validB g = b)) :
    Calls Tryz.prog 23 #[.slice A k c] w fun e w' => e = .returned (.bool b) ∧ w = w' := by
  have hv := h.out
  unfold validB at hv
  by_cases h1 : k ≤ 1024
  · cases k with
    | zero =>
      have hg : g = [] := List.eq_nil_of_length_eq_zero hk
      obtain rfl : b = true := by rw [← hv, hg]; simp
      clear hv h hR hk hg
      go_enter Tryz.func23, Tryz.ntmps23
      go_wp2
      go_ret
      exact ⟨rfl, rfl⟩
    | succ k =>
      obtain ⟨x, hx⟩ : ∃ x, g[k]? = some x := ⟨_, List.getElem?_eq_getElem (by omega)⟩
      obtain ⟨b1, o, rfl, hcc⟩ := hR (by rintro rfl; simp at hx)
      have hcell := hcc k x hx
      have hl : g.getLast? = some x := by rw [List.getLast?_eq_getElem?, hk]; exact hx
      have hv2 : b = !(x == 0) := by
        rw [← hv, hl, hk]
        by_cases hx0 : x = 0
        · subst hx0; simp
        · rw [show (x == 0) = false from beq_eq_false_iff_ne.2 hx0]
          simp only [Bool.not_false, decide_eq_true_eq]
          exact ⟨h1, fun h => hx0 (Option.some.inj h)⟩
      clear hv h hR hk hcc hx hl
      by_cases hx0 : x = 0
      · subst hx0
        obtain rfl : b = false := by rw [hv2]; rfl
        clear hv2
        go_enter Tryz.func23, Tryz.ntmps23
        go_wp2
        go_ret
        exact ⟨rfl, rfl⟩
      · have hxb : (x == 0) = false := beq_eq_false_iff_ne.2 hx0
        obtain rfl : b = true := by rw [hv2, hxb]; rfl
        clear hv2
        go_enter Tryz.func23, Tryz.ntmps23
        go_wp2
        go_ret
        exact ⟨by simp [hx0, hxb], rfl⟩
  · obtain rfl : b = false := by rw [← hv, hk]; simp [h1]
    clear hv h hR hk
    go_enter Tryz.func23, Tryz.ntmps23
    go_wp2
    go_ret
    exact ⟨rfl, rfl⟩
variable {w0 w : World} {l : List (Option Addr × Nat × Nat × Nat)}
theorem div_top (x m : Nat) : x / 4294967296 ^ m = 4294967296 * (x / 4294967296 ^ (m + 1)) + x / 4294967296 ^ m % 4294967296 := by
  rw [Nat.pow_succ, ← Nat.div_div_eq_div_mul]
  exact (Nat.div_add_mod _ _).symm
theorem cmp_digit {x y m : Nat} (h : x / 4294967296 ^ (m + 1) = y / 4294967296 ^ (m + 1)) :
    (x / 4294967296 ^ m % 4294967296 < y / 4294967296 ^ m % 4294967296 → x < y) ∧ (x / 4294967296 ^ m % 4294967296 = y / 4294967296 ^ m % 4294967296 → x / 4294967296 ^ m = y / 4294967296 ^ m) := by
  have h1 := div_top x m
  have h2 := div_top y m
  rw [h] at h1
  refine ⟨fun h3 => ?_, fun h3 => by omega⟩
  rcases Nat.lt_or_ge x y with h4 | h4
  · exact h4
  · have := Nat.div_le_div_right (c := 4294967296 ^ m) h4
    omega
set_option maxRecDepth 10000 in
set_option maxHeartbeats 1000000 in
theorem rcmp_h (H : Has w0 w l) (A1 : Option Addr) (k1 c1 x : Nat) (A2 : Option Addr) (k2 c2 y : Nat) (h1 : (A1, k1, c1, x) ∈ l) (h2 : (A2, k2, c2, y) ∈ l) (b1 : k1 ≤ 1099511627776) (b2 : k2 ≤ 1099511627776) (r : Int) (hr : Hid (cmpI x y = r)) :
    Calls Tryz.prog 42 #[.slice A1 k1 c1, .slice A2 k2 c2] w fun e w' => e = .returned (.int .i64 r) ∧ w = w' := by
  have e1 := H.len h1
  have e2 := H.len h2
  obtain ⟨N, hN⟩ : ∃ N, max k1 k2 = N := ⟨_, rfl⟩
  have hN2 : max (k1 : Int) (k2 : Int) = (N : Int) := by omega
  have hx0 : x / 4294967296 ^ N = 0 := Nat.div_eq_of_lt (lt_of_len (by omega))
  have hy0 : y / 4294967296 ^ N = 0 := Nat.div_eq_of_lt (lt_of_len (by omega))
  have hA1 := fun (i : Nat) => rat_h H A1 k1 c1 x i h1 b1 _ (Lib.hid (dg_getD x i))
  have hA2 := fun (i : Nat) => rat_h H A2 k2 c2 y i h2 b2 _ (Lib.hid (dg_getD y i))
  have HA1 := Lib.hid hA1
  have HA2 := Lib.hid hA2
  have H0 := Lib.hid (hx0.trans hy0.symm)
  have HN := Lib.hid hN
  have hNb : N ≤ 1099511627776 := by omega
  clear hA1 hA2 hx0 hy0 e1 e2 hN b1 b2 H h1 h2
  go_enter Tryz.func42, Tryz.ntmps42
  go_wp2_with fail
  go_loop [5] (fun v => ∃ m : Nat, m ≤ N ∧ v = .int .i64 ((m : Int) - 1) ∧ Hid (x / 4294967296 ^ m = y / 4294967296 ^ m)) (fun v => (intOf v + 1).toNat)
  case atStart => exact ⟨N, Nat.le_refl _, by first | rfl | (congr 1; omega) | skip, H0⟩
  case round =>
    obtain ⟨m, hm, rfl, he⟩ := hrel
    cases m with
    | zero =>
      obtain rfl : x = y := by simpa using he.out
      obtain rfl : r = 0 := by rw [← hr.out]; unfold cmpI; simp
      clear hr he
      go_wp2_with fail
      go_ret
      exact ⟨rfl, rfl⟩
    | succ m =>
      have hmm : ((m + 1 : Nat) : Int) - 1 = m := by omega
      have hge : decide ((0 : Int) ≤ (m : Int)) = true := decide_eq_true (by omega)
      obtain ⟨xi, hxi⟩ : ∃ xi, x / 4294967296 ^ m % 4294967296 = xi := ⟨_, rfl⟩
      obtain ⟨yi, hyi⟩ : ∃ yi, y / 4294967296 ^ m % 4294967296 = yi := ⟨_, rfl⟩
      have C1 := HA1.out m
      have C2 := HA2.out m
      rw [hxi] at C1
      rw [hyi] at C2
      have D := cmp_digit he.out
      have D2 := cmp_digit he.out.symm
      rw [hxi, hyi] at D D2
      have HD := Lib.hid D
      have HD2 := Lib.hid D2
      clear D D2 he hxi hyi
      rcases Nat.lt_trichotomy xi yi with h | h | h
      · obtain rfl : r = -1 := by rw [← hr.out]; unfold cmpI; rw [if_pos (HD.out.1 h)]
        go_wp2_with fail
        refine C1.mono ?_
        rintro e w' ⟨rfl, rfl⟩
        go_wp2_with fail
        refine C2.mono ?_
        rintro e w' ⟨rfl, rfl⟩
        go_wp2_with fail
        go_ret
        exact ⟨rfl, rfl⟩
      · have HE := Lib.hid (HD.out.2 h)
        subst h
        go_wp2_with fail
        refine C1.mono ?_
        rintro e w' ⟨rfl, rfl⟩
        go_wp2_with fail
        refine C2.mono ?_
        rintro e w' ⟨rfl, rfl⟩
        go_wp2_with fail
        refine C1.mono ?_
        rintro e w' ⟨rfl, rfl⟩
        go_wp2_with fail
        refine C2.mono ?_
        rintro e w' ⟨rfl, rfl⟩
        go_wp2_with fail
        go_round
        case rel => exact ⟨m, by omega, by first | rfl | (congr 1), HE⟩
        case measure => simp [intOf]
      · obtain rfl : r = 1 := by
          have := HD2.out.1 h
          rw [← hr.out]; unfold cmpI; rw [if_neg (by omega), if_pos this]
        have hn : ¬ xi < yi := by omega
        go_wp2_with fail
        refine C1.mono ?_
        rintro e w' ⟨rfl, rfl⟩
        go_wp2_with fail
        refine C2.mono ?_
        rintro e w' ⟨rfl, rfl⟩
        go_wp2_with fail
        refine C1.mono ?_
        rintro e w' ⟨rfl, rfl⟩
        go_wp2_with fail
        refine C2.mono ?_
        rintro e w' ⟨rfl, rfl⟩
        go_wp2_with fail
        go_ret
        exact ⟨rfl, rfl⟩
end Go.Proofs.YtfcfejlffmddnaaGreatDoor
end
section
/- Contracts of the reference: Add. -/
namespace Go.Proofs.YtfcfejlffmddnaaGreatDoor
open Go.RowKit
set_option linter.unusedSimpArgs false
set_option linter.unusedVariables false
set_option linter.constructorNameAsVariable false

theorem own_ge {W : World} {base : Nat} {e : TypeId} {size : Nat} {v : Value} {k : Nat} {xs : List Value} (h : W.ownsRow base e size v k xs) : ∀ j, v.ownBlock = some j → base ≤ j := fun j hj => (h.lt j hj).1
theorem info_u32 : ∃ i, Tryz.prog.info? 57 = some i ∧ i.zero = some (.int .u32 0) ∧ i.size = 1 ∧ i.bytes = 4 := by
  obtain ⟨i, hi, hzz⟩ := Option.map_eq_some_iff.1 info57
  simp only [Prod.mk.injEq] at hzz
  exact ⟨i, hi, hzz.1, hzz.2.1, hzz.2.2⟩
/-- A row of limbs that a loop has made so far. -/
structure Out (w wr : World) (ao : Option Addr) (k cap : Nat) (res : List Int) : Prop where
  row : wr.ownsRow w.heap.size 57 1 (.slice ao k cap) k (res.map (.int .u32))
  bl : Below w.heap.size w wr
  sz : w.heap.size ≤ wr.heap.size
theorem Out.start (w : World) : Out w w none 0 0 [] := ⟨World.ownsRow_nil _ _ _ _, Below.refl _ _, Nat.le_refl _⟩
theorem Out.next {w wr w2 : World} {ao : Option Addr} {k cap : Nat} {res : List Int} (h : Out w wr ao k cap res) {x : Int} {T : TypeId} {ao' : Option Addr} {cap' : Nat}
    (hg : (wr.alloc (.cells #[.int .u32 x] T)).grownBy w2 (Value.slice ao k cap).ownBlock) (ho : w2.ownsRow w.heap.size 57 1 (.slice ao' (k + 1) cap') (k + 1) (res.map (.int .u32) ++ [.int .u32 x])) : Out w w2 ao' (k + 1) cap' (res ++ [x]) := by
  have hs := h.sz
  refine ⟨by simpa using ho, (h.bl.alloc hs _).grown hg (by simp; omega) (fun i hi => own_ge h.row i hi), ?_⟩
  have := hg.size; simp at this; omega
variable {w0 w : World} {l : List (Option Addr × Nat × Nat × Nat)}
/-- The trimmed row is the answer. -/
theorem Out.trim (H : Has w0 w l) {wr : World} {ao : Option Addr} {k cap : Nat} {res : List Int} (h : Out w wr ao k cap res) (hk : res.length = k) (hb : k ≤ 1099511627776) (hd : dgs res) (x : Nat) (hv : vl res = x) (K : Nat) (hK : (dg x).length ≤ K) :
    Calls Tryz.prog 74 #[.slice ao k cap] wr (Made w0 l x K) := by
  obtain ⟨A', c', e, hr, h1, h2⟩ := row_rd hk h.row
  cases e
  refine (rtrim_calls ao cap k res x wr hk h1 h2 hb hd hv hr).mono ?_
  rintro e w' ⟨A2, c2, rfl, hr2, h3, h4, hb2⟩
  exact ⟨A2, _, c2, x, rfl, Lib.hid rfl, hK, ((H.below h.bl).below hb2).cons hr2 rfl h3 h4⟩
set_option maxRecDepth 10000 in
set_option maxHeartbeats 2000000 in
theorem radd_h (H : Has w0 w l) (A1 : Option Addr) (k1 c1 x : Nat) (A2 : Option Addr) (k2 c2 y : Nat) (h1 : (A1, k1, c1, x) ∈ l) (h2 : (A2, k2, c2, y) ∈ l) (b1 : k1 ≤ 10000) (b2 : k2 ≤ 10000) :
    Calls Tryz.prog 43 #[.slice A1 k1 c1, .slice A2 k2 c2] w (Made w0 l (x + y) 10001) := by
  have e1 := Lib.hid (H.len h1)
  have e2 := Lib.hid (H.len h2)
  obtain ⟨i0, hi, hz0, hz1, hz2⟩ := info_u32
  obtain ⟨N, hN⟩ : ∃ N, max k1 k2 = N := ⟨_, rfl⟩
  have hN2 : max (k1 : Int) (k2 : Int) = (N : Int) := by omega
  have hN1 : k1 ≤ N := by omega
  have hN3 : k2 ≤ N := by omega
  have hNb : N ≤ 10000 := by omega
  have HLEN : Hid ((dg (x + y)).length ≤ 10001) := Lib.hid (by have := len_add x y; have := e1.out; have := e2.out; omega)
  have HH := Lib.hid H
  have M1 := Lib.hid h1
  have M2 := Lib.hid h2
  clear hN H h1 h2
  go_enter Tryz.func43, Tryz.ntmps43
  go_wp2_with fail
  go_loopw [5, 6, 7, 8] (fun vo vc vi vs wr => ∃ (i : Nat) (ao : Option Addr) (cap : Nat) (res : List Int) (cy : Int), i ≤ N + 1 ∧ vi = .int .i64 i ∧ vo = .slice ao i cap ∧ vc = .int .u64 cy ∧ 0 ≤ cy ∧ cy ≤ 1 ∧ Hid (AddInv (dg x) (dg y) i res cy) ∧ Hid (Out w wr ao i cap res)) (fun vo vc vi vs wr => N + 1 - (intOf vi).toNat)
  case atStart => exact ⟨0, none, 0, [], 0, by omega, rfl, rfl, rfl, by omega, by omega, Lib.hid (AddInv.start _ _), Lib.hid (Out.start w)⟩
  case round =>
    obtain ⟨i, ao, cap, res, cy, hiN, rfl, rfl, rfl, cy0, cy1, HA, HO⟩ := hrel
    by_cases hlt : i ≤ N
    · obtain ⟨xi, hxi⟩ : ∃ z, (dg x).getD i 0 = z := ⟨_, rfl⟩
      obtain ⟨yi, hyi⟩ : ∃ z, (dg y).getD i 0 = z := ⟨_, rfl⟩
      obtain ⟨x0, x1⟩ := dgs_getD (dgs_dg x) i
      obtain ⟨y0, y1⟩ := dgs_getD (dgs_dg y) i
      rw [hxi] at x0 x1
      rw [hyi] at y0 y1
      have hA := AddInv.step (dgs_dg x) (dgs_dg y) HA.out (xi + yi + cy) (by rw [hxi, hyi]; omega)
      have HAS := Lib.hid hA
      have C1 := rat_h (HH.out.below HO.out.bl) A1 k1 c1 x i M1.out (by omega) xi (Lib.hid hxi)
      have C2 := rat_h (HH.out.below HO.out.bl) A2 k2 c2 y i M2.out (by omega) yi (Lib.hid hyi)
      have hsz := HO.out.sz
      clear hA hxi hyi
      go_wp2_with fail
      refine C1.mono ?_
      rintro e w' ⟨rfl, rfl⟩
      go_wp2_with fail
      refine C2.mono ?_
      rintro e w' ⟨rfl, rfl⟩
      clear C1 C2
      go_wp2_with (at_builtin; refine wpList_append_own _ rfl _ _ 23 rfl w.heap.size 57 i0 (.int .u32 0) 1 4 Tryz.underlying23 hi hz0 hz1 hz2 rfl (by decide) _ _ _ rfl (HO.out.row.alloc _) ⟨wr.heap.size, 0, none⟩ 1 1 [.int .u32 ((xi + yi + cy) % 4294967296)] rfl rfl (cell_one_new _ _ _) (by simp [Value.oneCell']) (by unfold maxLen; omega) (by omega) (by simp; omega) ?_; intro v' w2 hown' hgrow _; have Hg' := Lib.hid (show (wr.alloc (.cells #[.int .u32 ((xi + yi + cy) % 4294967296)] 57)).grownBy w2 (Value.slice ao i cap).ownBlock from hgrow); clear hgrow; obtain ⟨g', cap', rfl⟩ := ownsRow_succ hown'; have HO2 := Lib.hid (HO.out.next Hg'.out hown'); clear hown' Hg')
      go_roundw
      case rel => exact ⟨i + 1, _, cap', _, _, by omega, by go_num, rfl, rfl, by omega, by omega, HAS, HO2⟩
      case measure => simp [intOf]; omega
    · obtain rfl : i = N + 1 := by omega
      have hv := HA.out.fin (by rw [e1.out]; omega) (by rw [e2.out]; omega)
      have HT := Lib.hid (HO.out.trim HH.out HA.out.len (by omega) HA.out.ok (x + y) hv 10001 HLEN.out)
      clear hv
      go_wp2_with fail
      refine HT.out.mono ?_
      rintro e w' ⟨A', k', c', n', rfl, hn, hk, h⟩
      have HF := Lib.hid h
      clear h
      go_wp2_with fail
      go_ret
      exact ⟨A', k', c', n', rfl, hn, hk, HF.out⟩
end Go.Proofs.YtfcfejlffmddnaaGreatDoor
end
section
/- Contracts of the reference: Mul. -/
namespace Go.Proofs.YtfcfejlffmddnaaGreatDoor
open Go.RowKit
set_option linter.unusedSimpArgs false
set_option linter.unusedVariables false
set_option linter.constructorNameAsVariable false

variable {w0 w : World} {l : List (Option Addr × Nat × Nat × Nat)}
set_option maxRecDepth 10000 in
set_option maxHeartbeats 1000000 in
theorem rmul_h (H : Has w0 w l) (A1 : Option Addr) (k1 c1 x : Nat) (A2 : Option Addr) (k2 c2 y : Nat) (h1' : (A1, k1, c1, x) ∈ l) (h2' : (A2, k2, c2, y) ∈ l) (hx : k1 ≤ 10000) (hy : k2 ≤ 10000) :
    Calls Tryz.prog 27 #[.slice A1 k1 c1, .slice A2 k2 c2] w (Made w0 l (x * y) (k1 + k2)) := by
  have hk1 := H.len h1'
  have hk2 := H.len h2'
  obtain ⟨h1, _, _, _⟩ := H.at h1'
  obtain ⟨h2, _, _, _⟩ := H.at h2'
  have HH := Lib.hid H
  have HLEN : Hid ((dg (x * y)).length ≤ k1 + k2) := Lib.hid (by have := len_mul x y; omega)
  clear h1' h2' H
  have m1 := run_make_row' (P := Tryz.prog) 23 57 (.int .u32 0) 4 Tryz.underlying23 info57 rfl .i64 .i64 (k1 + k2) (by omega) (by omega)
  rw [Int.natCast_add] at m1
  have HK1 := Lib.hid hk1
  have HK2 := Lib.hid hk2
  have H1 := Lib.hid h1
  have H2 := Lib.hid h2
  clear hk1 hk2 h1 h2
  go_enter Tryz.func27, Tryz.ntmps27
  go_wp2_with fail
  have HW : Hid (Wr (w.alloc (.cells (madeCells #[.int .u32 0] (k1 + k2)) 57)) w.heap.size 0 (List.replicate (k1 + k2) 0)) := Lib.hid (Wr.made _ _ _)
  have HB : Hid (Below w.heap.size w (w.alloc (.cells (madeCells #[.int .u32 0] (k1 + k2)) 57))) := Lib.hid ((Below.refl _ _).alloc (Nat.le_refl _) _)
  go_loopw [6, 7, 8, 9] (fun v19 v7 v8 v9 wr => ∃ (i : Nat) (out : List Int), i ≤ k1 ∧ v19 = .int .i64 i ∧ Hid (MulOut (dg x) (dg y) i out) ∧ Hid (Wr wr w.heap.size 0 out) ∧ Hid (Below w.heap.size w wr)) (fun v19 v7 v8 v9 wr => k1 - (intOf v19).toNat)
  case atStart => exact ⟨0, List.replicate (k1 + k2) 0, Nat.zero_le _, rfl, Lib.hid (by rw [← HK1.out, ← HK2.out]; exact MulOut.start _ _), HW, HB⟩
  case round =>
    obtain ⟨i, out0, hi, rfl, HA, HW2, HB2⟩ := hrel
    by_cases hlt : i < k1
    · obtain ⟨xi, hxi⟩ : ∃ z, (dg x)[i]? = some z := ⟨_, List.getElem?_eq_getElem (by rw [HK1.out]; exact hlt)⟩
      obtain ⟨x0, x1⟩ := dgs_at (dgs_dg x) hxi
      obtain ⟨b1, o1, rfl, r1⟩ := (H1.out.below HB2.out) (by intro h; rw [h] at hxi; simp at hxi)
      have hcx := r1 i xi hxi
      have HX := Lib.hid hxi
      clear r1 hxi
      go_wp2_with fail
      go_loopw [7, 8, 9] (fun v8 v26 v9 wr => ∃ (k : Nat) (out : List Int) (cy : Int), k ≤ k2 ∧ v26 = .int .i64 k ∧ v8 = .int .u64 cy ∧ 0 ≤ cy ∧ cy < 4294967296 ∧ Hid (MulInv (dg y) out0 xi i k out cy) ∧ Hid (Wr wr w.heap.size 0 out) ∧ Hid (Below w.heap.size w wr)) (fun v8 v26 v9 wr => k2 - (intOf v26).toNat)
      case atStart => exact ⟨0, out0, 0, Nat.zero_le _, rfl, rfl, by omega, by omega, Lib.hid (MulInv.start HA.out.ok), HW2, HB2⟩
      case round =>
        obtain ⟨k, out, cy, hk, rfl, rfl, cy0, cy1, HI, HW3, HB3⟩ := hrel
        by_cases hlk : k < k2
        · obtain ⟨yk, hyk⟩ : ∃ z, (dg y)[k]? = some z := ⟨_, List.getElem?_eq_getElem (by rw [HK2.out]; exact hlk)⟩
          obtain ⟨y0, y1⟩ := dgs_at (dgs_dg y) hyk
          obtain ⟨b2, o2, rfl, r2⟩ := (H2.out.below HB3.out) (by intro h; rw [h] at hyk; simp at hyk)
          have hcy := r2 k yk hyk
          obtain ⟨b1', o1', hb', r1'⟩ := (H1.out.below HB3.out) (by intro h; have := HX.out; rw [h] at this; simp at this)
          cases hb'
          have hcx' := r1' i xi HX.out
          clear r1'
          have hlen : i + k < out.length := by rw [HI.out.len, HA.out.len, HK1.out, HK2.out]; omega
          obtain ⟨zk, hzk⟩ : ∃ z, out[i + k]? = some z := ⟨_, List.getElem?_eq_getElem hlen⟩
          obtain ⟨z0, z1⟩ := dgs_at HI.out.ok hzk
          have hcell := HW3.out (i + k) zk hzk
          rw [Nat.zero_add] at hcell
          obtain ⟨hc1, hc2⟩ := hcell
          obtain ⟨m0, m1⟩ := mul_lt_BB x0 x1 y0 y1
          have hI := MulInv.step (dgs_dg y) x0 x1 HI.out yk zk hyk hzk (xi * yk + zk + cy) (Int.add_comm _ _)
          obtain ⟨pr, hpr⟩ : ∃ p, xi * yk = p := ⟨_, rfl⟩
          rw [hpr] at m0 m1 hI
          have hw : ∀ q, Wr ((wr.drewN q).setCell ⟨w.heap.size, i + k, none⟩ (.int .u32 ((pr + zk + cy) % 4294967296))) w.heap.size 0 (out.set (i + k) ((pr + zk + cy) % 4294967296)) := fun q => by
            have := (HW3.out.drewN q).set (i + k) ((pr + zk + cy) % 4294967296)
            rwa [Nat.zero_add] at this
          have HIS := Lib.hid hI
          have HWS := Lib.hid hw
          have HBS := Lib.hid (fun q => (below_drewN HB3.out q).setCell (p := ⟨w.heap.size, i + k, none⟩) (Nat.le_refl _) (.int .u32 ((pr + zk + cy) % 4294967296)))
          clear hyk hzk r2 hI hw hlen
          go_wp2
          go_quiet (fail)
          go_wp2
          go_roundw
          case rel => exact ⟨k + 1, _, _, by omega, by go_num, rfl, by omega, by omega, HIS, Lib.hid (HWS.out _), Lib.hid (HBS.out _)⟩
          case measure => simp [intOf]; omega
        · obtain rfl : k = k2 := by omega
          have hI := HI.out
          rw [← HK2.out] at hI
          have hO := MulOut.step HX.out HA.out hI
          rw [HK2.out] at hO
          have hlen : i + k < out.length := by rw [HI.out.len, HA.out.len, HK1.out, HK2.out]; omega
          obtain ⟨zk, hzk⟩ : ∃ z, out[i + k]? = some z := ⟨_, List.getElem?_eq_getElem hlen⟩
          have hcell := HW3.out (i + k) zk hzk
          rw [Nat.zero_add] at hcell
          obtain ⟨hc1, hc2⟩ := hcell
          have hcm : cy % 4294967296 = cy := Int.emod_eq_of_lt cy0 cy1
          have hw := HW3.out.set (i + k) cy
          rw [Nat.zero_add] at hw
          have HOS := Lib.hid hO
          have HWS := Lib.hid hw
          have HBS := Lib.hid (HB3.out.setCell (p := ⟨w.heap.size, i + k, none⟩) (Nat.le_refl _) (.int .u32 cy))
          clear hzk hI hO hw hlen
          go_wp2_with fail
          go_roundw
          case rel => exact ⟨i + 1, _, by omega, by go_num, HOS, HWS, HBS⟩
          case measure => simp [intOf]; omega
    · obtain rfl : i = k1 := by omega
      have hO := HA.out
      rw [← HK1.out] at hO
      have hv := MulOut.fin hO
      have hlen : out0.length = i + k2 := by rw [HA.out.len, HK1.out, HK2.out]
      have HL := Lib.hid hlen
      have HV := Lib.hid hv
      clear hO hv hlen
      go_wp2_with fail
      refine (rtrim_calls _ (i + k2) (i + k2) out0 (x * y) _ HL.out (Nat.le_refl _) (by omega) (by omega) HA.out.ok HV.out HW2.out.rd).mono ?_
      rintro e w' ⟨A', c', rfl, hr, h3, h4, hb⟩
      go_wp2_with fail
      go_ret
      exact ⟨A', _, c', x * y, rfl, Lib.hid rfl, HLEN.out, ((HH.out.below HB2.out).below hb).cons hr rfl h3 h4⟩
end Go.Proofs.YtfcfejlffmddnaaGreatDoor
end
section
/- Contracts of the reference: Pow. -/
namespace Go.Proofs.YtfcfejlffmddnaaGreatDoor
open Go.RowKit
set_option linter.unusedSimpArgs false
set_option linter.unusedVariables false
set_option linter.constructorNameAsVariable false

variable {w0 w : World} {l : List (Option Addr × Nat × Nat × Nat)}
/-- What the reference's Pow answers. -/
def RPow (w0 : World) (l : List (Option Addr × Nat × Nat × Nat)) (a n : Nat) (e : Ending) (w' : World) : Prop :=
  (Hid (giv (a ^ n) = (2, 0)) ∧ e = .returned (.tuple #[.slice none 0 0, .bool false]) ∧ Hid (Has w0 w' l)) ∨
    ∃ A k c, e = .returned (.tuple #[.slice A k c, .bool true]) ∧ k ≤ 1024 ∧ Hid (Has w0 w' ((A, k, c, a ^ n) :: l))
theorem pow_over {a n i : Nat} (ha : 2 ≤ a) (hi : i + 1 ≤ n) (h : ¬ (dg (a ^ (i + 1))).length ≤ 1024) : giv (a ^ n) = (2, 0) :=
  giv_no (fun h2 => h (lenle (Nat.pow_le_pow_right (by omega) hi) h2))
set_option maxRecDepth 10000 in
set_option maxHeartbeats 2000000 in
theorem rpow_h (H : Has w0 w l) (A1 : Option Addr) (k1 c1 a : Nat) (n : Nat) (h1 : (A1, k1, c1, a) ∈ l) (b1 : k1 ≤ 1024) (hn : n ≤ 9223372036854775807) :
    Calls Tryz.prog 25 #[.slice A1 k1 c1, .int .i64 n] w (RPow w0 l a n) := by
  have e1 := Lib.hid (H.len h1)
  have HH := Lib.hid H
  have M1 := Lib.hid h1
  clear H h1
  by_cases hn0 : n = 0
  · subst hn0
    go_enter Tryz.func25, Tryz.ntmps25
    go_wp2_with fail
    go_ret2
    exact Or.inr ⟨_, 1, 1, rfl, by decide, Lib.hid (HH.out.one 1 (by decide) (by decide))⟩
  have hz : ((n : Int) == 0) = false := by simp; omega
  have HO := Lib.hid (HH.out.one 1 (by decide) (by decide))
  by_cases ha1 : a = 1
  · have HA := Lib.hid ha1
    have HS := rsame_h HO.out A1 k1 c1 a _ 1 1 1 (.tail _ M1.out) (.head _) (Nat.le_trans b1 (by decide)) (by decide) true (Lib.hid (decide_eq_true ha1))
    clear ha1
    go_enter Tryz.func25, Tryz.ntmps25
    go_wp2_with fail
    refine HS.mono ?_
    rintro e w1 ⟨rfl, h⟩
    have H1 := Lib.hid h
    clear h
    go_wp2_with fail
    go_ret2
    refine Or.inr ⟨_, 1, 1, rfl, by decide, Lib.hid ?_⟩
    rw [HA.out, Nat.one_pow]
    exact ((H1.out.keep (fun p hp => .tail _ hp)).one 1 (by decide) (by decide))
  have HS := rsame_h HO.out A1 k1 c1 a _ 1 1 1 (.tail _ M1.out) (.head _) (Nat.le_trans b1 (by decide)) (by decide) false (Lib.hid (decide_eq_false ha1))
  by_cases hk : k1 = 0
  · have HA : Hid (a = 0) := Lib.hid ((dg_nil_iff a).1 (by rw [e1.out, hk]))
    subst hk
    clear ha1
    go_enter Tryz.func25, Tryz.ntmps25
    go_wp2_with fail
    refine HS.mono ?_
    rintro e w1 ⟨rfl, h⟩
    have H1 := Lib.hid h
    clear h
    go_wp2_with fail
    go_ret2
    refine Or.inr ⟨A1, 0, c1, rfl, by decide, Lib.hid ?_⟩
    rw [HA.out, Nat.zero_pow (by omega)]
    have hk := H1.out.keep (l' := l) (fun p hp => .tail _ hp)
    have hm := M1.out
    rw [HA.out] at hm
    obtain ⟨r, x1, x2, x3⟩ := hk.at hm
    exact hk.cons r x1 x2 x3
  · have hk0 : ((k1 : Int) == 0) = false := by simp; omega
    have ha2 : Hid (2 ≤ a) := Lib.hid (by
      have : a ≠ 0 := fun h => by
        have := e1.out
        rw [h, dg_zero] at this
        exact hk this.symm
      omega)
    clear ha1 hk
    go_enter Tryz.func25, Tryz.ntmps25
    go_wp2_with fail
    refine HS.mono ?_
    rintro e w1 ⟨rfl, h⟩
    have H1 := Lib.hid (h.keep (l' := l) (fun p hp => .tail _ hp))
    clear h HS HO
    have H2 := Lib.hid (H1.out.one 1 (by decide) (by decide))
    go_wp2_with fail
    go_loopw [6, 7] (fun vo vi wr => ∃ (i : Nat) (A : Option Addr) (k c : Nat), i ≤ n ∧ vi = .int .i64 i ∧ vo = .slice A k c ∧ k ≤ 1024 ∧ Hid (Has w0 wr ((A, k, c, a ^ i) :: l))) (fun vo vi wr => n - (intOf vi).toNat)
    case atStart => exact ⟨0, _, 1, 1, Nat.zero_le _, rfl, rfl, by decide, by rw [Nat.pow_zero]; exact H2⟩
    case round =>
      obtain ⟨i, A, k, c, hi, rfl, rfl, hkb, HI⟩ := hrel
      by_cases hlt : i < n
      · go_wp2_with fail
        refine (rmul_h HI.out A k c (a ^ i) A1 k1 c1 a (.head _) (.tail _ M1.out) (by omega) (by omega)).mono ?_
        rintro e w2 ⟨A', k', c', n', rfl, hn', hk', h⟩
        rw [hn'.out] at h
        have hlen := h.len (.head _)
        have HX := Lib.hid (show Has w0 w2 ((A', k', c', a ^ (i + 1)) :: l) by
          rw [Nat.pow_succ]
          exact h.keep (fun p hp => by
            rcases List.mem_cons.1 hp with rfl | hp
            · exact .head _
            · exact .tail _ (.tail _ hp)))
        clear h hn'
        by_cases hf : k' ≤ 1024
        · clear hlen
          go_wp2_with fail
          refine (fits_calls A' k' c' _ true (Lib.hid (decide_eq_true hf))).mono ?_
          rintro e w' ⟨rfl, rfl⟩
          go_wp2_with fail
          go_roundw
          case rel => exact ⟨i + 1, A', k', c', by omega, by go_num, rfl, hf, HX⟩
          case measure => simp [intOf]; omega
        · have HG := Lib.hid (pow_over (n := n) ha2.out (by omega : i + 1 ≤ n) (by rw [HX.out.len (.head _)]; exact hf))
          clear hlen
          go_wp2_with fail
          refine (fits_calls A' k' c' _ false (Lib.hid (decide_eq_false hf))).mono ?_
          rintro e w' ⟨rfl, rfl⟩
          go_wp2_with fail
          go_ret2
          exact Or.inl ⟨HG, rfl, Lib.hid (HX.out.keep (fun p hp => .tail _ hp))⟩
      · obtain rfl : n = i := by omega
        go_wp2_with fail
        go_ret2
        exact Or.inr ⟨A, k, c, rfl, hkb, HI⟩
end Go.Proofs.YtfcfejlffmddnaaGreatDoor
end
section
/- The law NatProducts. -/
namespace Go.Proofs.YtfcfejlffmddnaaGreatDoor
open Go.RowKit
set_option linter.unusedSimpArgs false
set_option linter.unusedVariables false
set_option linter.constructorNameAsVariable false

variable {w0 w : World} {l : List (Option Addr × Nat × Nat × Nat)}
theorem mulL_bad {g1 g2 : List Int} (h : (validB g1 && validB g2) = false) : mulL g1 g2 = (1, 0) := by unfold mulL; rw [h]; rfl
theorem powL_bad {g1 : List Int} {n : Int} (h : validB g1 = false) : powL g1 n = (1, 0) := by unfold powL; rw [h]; rfl
theorem powO_neg {a : Nat} {n : Int} (h : n < 0) : powO a n = (1, 0) := if_pos h
theorem powO_nat' (a m : Nat) : powO a (m : Int) = giv (a ^ m) := by unfold powO; rw [if_neg (by omega), Int.toNat_natCast]
theorem wf_i64' {n : Int} (h : (Lit.int .i64 n).wf = true) : n ≤ 9223372036854775807 := by
  simp [Lit.wf, IntKind.min, IntKind.max, IntKind.signed, IntKind.bits] at h
  omega
set_option maxRecDepth 100000 in
set_option maxHeartbeats 4000000 in
theorem products_calls (w : World) (hT : Tabs w) (A1 : Option Addr) (k1 c1 : Nat) (g1 : List Int) (A2 : Option Addr) (k2 c2 : Nat) (g2 : List Int) (i1 : Inp w A1 k1 c1 g1) (i2 : Inp w A2 k2 c2 g2) (n : Int) (wn : (Lit.int .i64 n).wf = true) :
    Calls Tryz.prog 3 #[.slice A1 k1 c1, .slice A2 k2 c2, .int .i64 n] w (True1 w) := by
  have HT := Lib.hid hT
  have I1 := Lib.hid i1
  have I2 := Lib.hid i2
  have H0 := Lib.hid (Has.nil w)
  clear hT i1 i2
  have hnb := wf_i64' wn
  clear wn
  by_cases q1 : k1 ≤ 1100
  case neg =>
    go_enter Tryz.func3, Tryz.ntmps3
    go_wp2_with fail
    refine (light_calls A1 k1 c1 1100 w false (Lib.hid (decide_eq_false q1))).mono ?_
    rintro e w' ⟨rfl, rfl⟩
    go_wp2_with fail
    refine (sanity_at H0 HT).mono ?_
    rintro e w1 ⟨rfl, H1⟩
    clear H0
    go_wp2_with fail
    go_ret
    exact ⟨rfl, H1.out.b⟩
  by_cases q2 : k2 ≤ 1100
  case neg =>
    go_enter Tryz.func3, Tryz.ntmps3
    go_wp2_with fail
    refine (light_calls A1 k1 c1 1100 w true (Lib.hid (decide_eq_true q1))).mono ?_
    rintro e w' ⟨rfl, rfl⟩
    go_wp2_with fail
    refine (light_calls A2 k2 c2 1100 w false (Lib.hid (decide_eq_false q2))).mono ?_
    rintro e w' ⟨rfl, rfl⟩
    go_wp2_with fail
    refine (sanity_at H0 HT).mono ?_
    rintro e w1 ⟨rfl, H1⟩
    clear H0
    go_wp2_with fail
    go_ret
    exact ⟨rfl, H1.out.b⟩
  by_cases hg : 20 < k1 ∧ 60 < n
  case pos =>
    obtain ⟨hg1, hg2⟩ := hg
    go_enter Tryz.func3, Tryz.ntmps3
    go_wp2_with fail
    refine (light_calls A1 k1 c1 1100 w true (Lib.hid (decide_eq_true q1))).mono ?_
    rintro e w' ⟨rfl, rfl⟩
    go_wp2_with fail
    refine (light_calls A2 k2 c2 1100 w true (Lib.hid (decide_eq_true q2))).mono ?_
    rintro e w' ⟨rfl, rfl⟩
    go_wp2_with fail
    refine (sanity_at H0 HT).mono ?_
    rintro e w1 ⟨rfl, H1⟩
    clear H0
    go_wp2_with fail
    go_ret
    exact ⟨rfl, H1.out.b⟩
  replace hg : (¬ 20 < k1) ∨ (20 < k1 ∧ ¬ 60 < n) := by omega
  cases v1 : validB g1
  case false =>
    have hv : (validB g1 && validB g2) = false := by rw [v1]; rfl
    rcases hg with hg | ⟨hg, hg2⟩
    all_goals
      go_enter Tryz.func3, Tryz.ntmps3
      go_wp2_with fail
      refine (light_calls A1 k1 c1 1100 w true (Lib.hid (decide_eq_true q1))).mono ?_
      rintro e w' ⟨rfl, rfl⟩
      go_wp2_with fail
      refine (light_calls A2 k2 c2 1100 w true (Lib.hid (decide_eq_true q2))).mono ?_
      rintro e w' ⟨rfl, rfl⟩
      go_wp2_with fail
      refine (Mul_l H0.out A1 k1 c1 g1 A2 k2 c2 g2 (I1.out.below H0.out.b) (I2.out.below H0.out.b) 1 (0) (Lib.hid (mulL_bad hv))).mono ?_
      rintro e w1 ⟨B1, j1, d1, rfl, b1, h⟩
      have H1 := Lib.hid h
      clear h H0
      go_wp2_with fail
      refine (Pow_l H1.out A1 k1 c1 g1 (I1.out.below H1.out.b) n 1 (0) (Lib.hid (powL_bad v1))).mono ?_
      rintro e w2 ⟨B2, j2, d2, rfl, b2, h⟩
      have H2 := Lib.hid h
      clear h H1
      obtain rfl := H2.out.none (.tail _ (.head _))
      obtain rfl := H2.out.none (.head _)
      go_wp2_with fail
      refine (rvalid_calls A1 c1 k1 g1 _ I1.out.len I1.out.lim (I1.out.rd.below H2.out.b) false (Lib.hid v1)).mono ?_
      rintro e w' ⟨rfl, rfl⟩
      go_wp2_with fail
      refine (sanity_at H2 HT).mono ?_
      rintro e w3 ⟨rfl, H3⟩
      clear H2
      go_wp2_with fail
      refine (refused_calls B1 d1 1 1 _ true (Lib.hid (by simp))).mono ?_
      rintro e w' ⟨rfl, rfl⟩
      go_wp2_with fail
      refine (refused_calls B2 d2 1 1 _ true (Lib.hid (by simp))).mono ?_
      rintro e w' ⟨rfl, rfl⟩
      go_wp2_with fail
      go_ret
      exact ⟨rfl, H3.out.b⟩
  obtain ⟨a, rfl, e1, _⟩ := I1.out.num H0.out v1
  have HV1 := Lib.hid v1
  by_cases hn : n < 0
  case pos =>
    have HN := Lib.hid hn
    cases v2 : validB g2
    case false =>
      have HM : Hid (mulL (dg a) g2 = (1, 0)) := Lib.hid (mulL_bad (by rw [v1, v2]; rfl))
      clear v1
      rcases hg with hg | ⟨hg, hg2⟩
      all_goals
        go_enter Tryz.func3, Tryz.ntmps3
        go_wp2_with fail
        refine (light_calls A1 k1 c1 1100 w true (Lib.hid (decide_eq_true q1))).mono ?_
        rintro e w' ⟨rfl, rfl⟩
        go_wp2_with fail
        refine (light_calls A2 k2 c2 1100 w true (Lib.hid (decide_eq_true q2))).mono ?_
        rintro e w' ⟨rfl, rfl⟩
        have h := ((I1.out.below H0.out.b).has (H0.out))
        have H1 := Lib.hid h
        clear h H0
        go_wp2_with fail
        refine (Mul_l H1.out A1 k1 c1 (dg a) A2 k2 c2 g2 (I1.out.below H1.out.b) (I2.out.below H1.out.b) 1 0 HM).mono ?_
        rintro e w2 ⟨B2, j2, d2, rfl, b2, h⟩
        have H2 := Lib.hid h
        clear h H1
        obtain rfl := H2.out.none (.head _)
        go_wp2_with fail
        refine (Pow_x H2.out A1 k1 c1 (a) n (.tail _ (.head _)) e1 1 0 (Lib.hid (powO_neg HN.out))).mono ?_
        rintro e w3 ⟨B3, j3, d3, rfl, b3, h⟩
        have H3 := Lib.hid h
        clear h H2
        obtain rfl := H3.out.none (.head _)
        go_wp2_with fail
        refine (rvalid_calls A1 c1 k1 (dg a) _ I1.out.len I1.out.lim (I1.out.rd.below H3.out.b) true HV1).mono ?_
        rintro e w' ⟨rfl, rfl⟩
        go_wp2_with fail
        refine (refused_calls B3 d3 1 1 _ true (Lib.hid (by simp))).mono ?_
        rintro e w' ⟨rfl, rfl⟩
        go_wp2_with fail
        refine (rvalid_calls A2 c2 k2 g2 _ I2.out.len I2.out.lim (I2.out.rd.below H3.out.b) false (Lib.hid v2)).mono ?_
        rintro e w' ⟨rfl, rfl⟩
        go_wp2_with fail
        refine (sanity_at H3 HT).mono ?_
        rintro e w4 ⟨rfl, H4⟩
        clear H3
        go_wp2_with fail
        refine (refused_calls B2 d2 1 1 _ true (Lib.hid (by simp))).mono ?_
        rintro e w' ⟨rfl, rfl⟩
        go_wp2_with fail
        go_ret
        exact ⟨rfl, H4.out.b⟩
    obtain ⟨b, rfl, e2, _⟩ := I2.out.num H0.out v2
    have HV2 := Lib.hid v2
    obtain ⟨x, z, hx⟩ : ∃ x z, Hid (giv (a * b) = (x, z)) := ⟨_, _, Lib.hid rfl⟩
    clear v1 v2
    rcases hg with hg | ⟨hg, hg2⟩
    all_goals
      go_enter Tryz.func3, Tryz.ntmps3
      go_wp2_with fail
      refine (light_calls A1 k1 c1 1100 w true (Lib.hid (decide_eq_true q1))).mono ?_
      rintro e w' ⟨rfl, rfl⟩
      go_wp2_with fail
      refine (light_calls A2 k2 c2 1100 w true (Lib.hid (decide_eq_true q2))).mono ?_
      rintro e w' ⟨rfl, rfl⟩
      have h := ((I2.out.below H0.out.b).has (((I1.out.below H0.out.b).has (H0.out))))
      have H1 := Lib.hid h
      clear h H0
      go_wp2_with fail
      refine (Mul_x H1.out A1 k1 c1 (a) A2 k2 c2 (b) (.tail _ (.head _)) (.head _) e1 e2 x z (hx)).mono ?_
      rintro e w2 ⟨B2, j2, d2, rfl, b2, h⟩
      have H2 := Lib.hid h
      clear h H1
      go_wp2_with fail
      refine (Pow_x H2.out A1 k1 c1 (a) n (.tail _ (.tail _ (.head _))) e1 1 0 (Lib.hid (powO_neg HN.out))).mono ?_
      rintro e w3 ⟨B3, j3, d3, rfl, b3, h⟩
      have H3 := Lib.hid h
      clear h H2
      obtain rfl := H3.out.none (.head _)
      go_wp2_with fail
      refine (rvalid_calls A1 c1 k1 (dg a) _ I1.out.len I1.out.lim (I1.out.rd.below H3.out.b) true HV1).mono ?_
      rintro e w' ⟨rfl, rfl⟩
      go_wp2_with fail
      refine (refused_calls B3 d3 1 1 _ true (Lib.hid (by simp))).mono ?_
      rintro e w' ⟨rfl, rfl⟩
      go_wp2_with fail
      refine (rvalid_calls A2 c2 k2 (dg b) _ I2.out.len I2.out.lim (I2.out.rd.below H3.out.b) true HV2).mono ?_
      rintro e w' ⟨rfl, rfl⟩
      go_wp2_with fail
      refine (sanity_at H3 HT).mono ?_
      rintro e w4 ⟨rfl, H4⟩
      clear H3
      go_wp2_with fail
      refine (rmul_h H4.out A1 k1 c1 (a) A2 k2 c2 (b) (.tail _ (.tail _ (.tail _ (.head _)))) (.tail _ (.tail _ (.head _))) (Nat.le_trans e1 (by decide)) (Nat.le_trans e2 (by decide))).mono ?_
      rintro e w5 ⟨B5, j5, d5, n5, rfl, hn5, b5, h⟩
      rw [hn5.out] at h
      clear hn5
      have H5 := Lib.hid h
      clear h H4
      go_wp2_with fail
      refine (is_giv H5.out B2 j2 d2 (z) B5 j5 d5 (a * b) x (.tail _ (.tail _ (.head _))) (.head _) b2 (hx) true rfl).mono ?_
      rintro e w6 ⟨rfl, h⟩
      have H6 := Lib.hid h
      clear h H5
      go_wp2_with fail
      go_ret
      exact ⟨rfl, H6.out.b⟩
  obtain ⟨N, rfl⟩ : ∃ m : Nat, n = m := ⟨n.toNat, by omega⟩
  have hNb : N ≤ 9223372036854775807 := by omega
  clear hnb
  obtain ⟨f, pn, hp⟩ : ∃ f pn, Hid (giv (a ^ N) = (f, pn)) := ⟨_, _, Lib.hid rfl⟩
  cases v2 : validB g2
  case false =>
    have HM : Hid (mulL (dg a) g2 = (1, 0)) := Lib.hid (mulL_bad (by rw [v1, v2]; rfl))
    clear v1
    rcases hg with hg | ⟨hg, hg2⟩
    all_goals
      go_enter Tryz.func3, Tryz.ntmps3
      go_wp2_with fail
      refine (light_calls A1 k1 c1 1100 w true (Lib.hid (decide_eq_true q1))).mono ?_
      rintro e w' ⟨rfl, rfl⟩
      go_wp2_with fail
      refine (light_calls A2 k2 c2 1100 w true (Lib.hid (decide_eq_true q2))).mono ?_
      rintro e w' ⟨rfl, rfl⟩
      have h := ((I1.out.below H0.out.b).has (H0.out))
      have H1 := Lib.hid h
      clear h H0
      go_wp2_with fail
      refine (Mul_l H1.out A1 k1 c1 (dg a) A2 k2 c2 g2 (I1.out.below H1.out.b) (I2.out.below H1.out.b) 1 0 HM).mono ?_
      rintro e w2 ⟨B2, j2, d2, rfl, b2, h⟩
      have H2 := Lib.hid h
      clear h H1
      obtain rfl := H2.out.none (.head _)
      go_wp2_with fail
      refine (Pow_x H2.out A1 k1 c1 (a) (N : Nat) (.tail _ (.head _)) e1 f pn (Lib.hid ((powO_nat' a N).trans hp.out))).mono ?_
      rintro e w3 ⟨B3, j3, d3, rfl, b3, h⟩
      have H3 := Lib.hid h
      clear h H2
      go_wp2_with fail
      refine (rvalid_calls A1 c1 k1 (dg a) _ I1.out.len I1.out.lim (I1.out.rd.below H3.out.b) true HV1).mono ?_
      rintro e w' ⟨rfl, rfl⟩
      go_wp2_with fail
      refine (rpow_h H3.out A1 k1 c1 (a) N (.tail _ (.tail _ (.head _))) e1 hNb).mono ?_
      rintro e w4 (⟨hgv, rfl, H4⟩ | ⟨B4, j4, d4, rfl, b4, H4⟩)
      case inl =>
        clear H3
        have hfp := hp.out.symm.trans hgv.out
        cases hfp
        clear hgv
        obtain rfl := H4.out.none (.head _)
        go_wp2_with fail
        refine (refused_calls B3 d3 2 2 _ true (Lib.hid (by simp))).mono ?_
        rintro e w' ⟨rfl, rfl⟩
        go_wp2_with fail
        refine (rvalid_calls A2 c2 k2 g2 _ I2.out.len I2.out.lim (I2.out.rd.below H4.out.b) false (Lib.hid v2)).mono ?_
        rintro e w' ⟨rfl, rfl⟩
        go_wp2_with fail
        refine (sanity_at H4 HT).mono ?_
        rintro e w5 ⟨rfl, H5⟩
        clear H4
        go_wp2_with fail
        refine (refused_calls B2 d2 1 1 _ true (Lib.hid (by simp))).mono ?_
        rintro e w' ⟨rfl, rfl⟩
        go_wp2_with fail
        go_ret
        exact ⟨rfl, H5.out.b⟩
      case inr =>
        clear H3
        go_wp2_with fail
        refine (is_giv H4.out B3 j3 d3 (pn) B4 j4 d4 (a ^ N) f (.tail _ (.head _)) (.head _) b3 (hp) true rfl).mono ?_
        rintro e w5 ⟨rfl, h⟩
        have H5 := Lib.hid h
        clear h H4
        go_wp2_with fail
        refine (rvalid_calls A2 c2 k2 g2 _ I2.out.len I2.out.lim (I2.out.rd.below H5.out.b) false (Lib.hid v2)).mono ?_
        rintro e w' ⟨rfl, rfl⟩
        go_wp2_with fail
        refine (sanity_at H5 HT).mono ?_
        rintro e w6 ⟨rfl, H6⟩
        clear H5
        go_wp2_with fail
        refine (refused_calls B2 d2 1 1 _ true (Lib.hid (by simp))).mono ?_
        rintro e w' ⟨rfl, rfl⟩
        go_wp2_with fail
        go_ret
        exact ⟨rfl, H6.out.b⟩
  obtain ⟨b, rfl, e2, _⟩ := I2.out.num H0.out v2
  have HV2 := Lib.hid v2
  obtain ⟨x, z, hx⟩ : ∃ x z, Hid (giv (a * b) = (x, z)) := ⟨_, _, Lib.hid rfl⟩
  clear v1 v2
  rcases hg with hg | ⟨hg, hg2⟩
  all_goals
    go_enter Tryz.func3, Tryz.ntmps3
    go_wp2_with fail
    refine (light_calls A1 k1 c1 1100 w true (Lib.hid (decide_eq_true q1))).mono ?_
    rintro e w' ⟨rfl, rfl⟩
    go_wp2_with fail
    refine (light_calls A2 k2 c2 1100 w true (Lib.hid (decide_eq_true q2))).mono ?_
    rintro e w' ⟨rfl, rfl⟩
    have h := ((I2.out.below H0.out.b).has (((I1.out.below H0.out.b).has (H0.out))))
    have H1 := Lib.hid h
    clear h H0
    go_wp2_with fail
    refine (Mul_x H1.out A1 k1 c1 (a) A2 k2 c2 (b) (.tail _ (.head _)) (.head _) e1 e2 x z (hx)).mono ?_
    rintro e w2 ⟨B2, j2, d2, rfl, b2, h⟩
    have H2 := Lib.hid h
    clear h H1
    go_wp2_with fail
    refine (Pow_x H2.out A1 k1 c1 (a) (N : Nat) (.tail _ (.tail _ (.head _))) e1 f pn (Lib.hid ((powO_nat' a N).trans hp.out))).mono ?_
    rintro e w3 ⟨B3, j3, d3, rfl, b3, h⟩
    have H3 := Lib.hid h
    clear h H2
    go_wp2_with fail
    refine (rvalid_calls A1 c1 k1 (dg a) _ I1.out.len I1.out.lim (I1.out.rd.below H3.out.b) true HV1).mono ?_
    rintro e w' ⟨rfl, rfl⟩
    go_wp2_with fail
    refine (rpow_h H3.out A1 k1 c1 (a) N (.tail _ (.tail _ (.tail _ (.head _)))) e1 hNb).mono ?_
    rintro e w4 (⟨hgv, rfl, H4⟩ | ⟨B4, j4, d4, rfl, b4, H4⟩)
    case inl =>
      clear H3
      have hfp := hp.out.symm.trans hgv.out
      cases hfp
      clear hgv
      obtain rfl := H4.out.none (.head _)
      go_wp2_with fail
      refine (refused_calls B3 d3 2 2 _ true (Lib.hid (by simp))).mono ?_
      rintro e w' ⟨rfl, rfl⟩
      go_wp2_with fail
      refine (rvalid_calls A2 c2 k2 (dg b) _ I2.out.len I2.out.lim (I2.out.rd.below H4.out.b) true HV2).mono ?_
      rintro e w' ⟨rfl, rfl⟩
      go_wp2_with fail
      refine (sanity_at H4 HT).mono ?_
      rintro e w5 ⟨rfl, H5⟩
      clear H4
      go_wp2_with fail
      refine (rmul_h H5.out A1 k1 c1 (a) A2 k2 c2 (b) (.tail _ (.tail _ (.tail _ (.head _)))) (.tail _ (.tail _ (.head _))) (Nat.le_trans e1 (by decide)) (Nat.le_trans e2 (by decide))).mono ?_
      rintro e w6 ⟨B6, j6, d6, n6, rfl, hn6, b6, h⟩
      rw [hn6.out] at h
      clear hn6
      have H6 := Lib.hid h
      clear h H5
      go_wp2_with fail
      refine (is_giv H6.out B2 j2 d2 (z) B6 j6 d6 (a * b) x (.tail _ (.tail _ (.head _))) (.head _) b2 (hx) true rfl).mono ?_
      rintro e w7 ⟨rfl, h⟩
      have H7 := Lib.hid h
      clear h H6
      go_wp2_with fail
      go_ret
      exact ⟨rfl, H7.out.b⟩
    case inr =>
      clear H3
      go_wp2_with fail
      refine (is_giv H4.out B3 j3 d3 (pn) B4 j4 d4 (a ^ N) f (.tail _ (.head _)) (.head _) b3 (hp) true rfl).mono ?_
      rintro e w5 ⟨rfl, h⟩
      have H5 := Lib.hid h
      clear h H4
      go_wp2_with fail
      refine (rvalid_calls A2 c2 k2 (dg b) _ I2.out.len I2.out.lim (I2.out.rd.below H5.out.b) true HV2).mono ?_
      rintro e w' ⟨rfl, rfl⟩
      go_wp2_with fail
      refine (sanity_at H5 HT).mono ?_
      rintro e w6 ⟨rfl, H6⟩
      clear H5
      go_wp2_with fail
      refine (rmul_h H6.out A1 k1 c1 (a) A2 k2 c2 (b) (.tail _ (.tail _ (.tail _ (.tail _ (.head _))))) (.tail _ (.tail _ (.tail _ (.head _)))) (Nat.le_trans e1 (by decide)) (Nat.le_trans e2 (by decide))).mono ?_
      rintro e w7 ⟨B7, j7, d7, n7, rfl, hn7, b7, h⟩
      rw [hn7.out] at h
      clear hn7
      have H7 := Lib.hid h
      clear h H6
      go_wp2_with fail
      refine (is_giv H7.out B2 j2 d2 (z) B7 j7 d7 (a * b) x (.tail _ (.tail _ (.tail _ (.head _)))) (.head _) b2 (hx) true rfl).mono ?_
      rintro e w8 ⟨rfl, h⟩
      have H8 := Lib.hid h
      clear h H7
      go_wp2_with fail
      go_ret
      exact ⟨rfl, H8.out.b⟩
end Go.Proofs.YtfcfejlffmddnaaGreatDoor
end
