/- The law NatRoots: its walk. -/
import Derived.Test.YtfcfejlffmddnaaGreatDoorM13
import Derived.RangeFuncBox
import Derived.Maps.AppendAt
import Derived.Laws.Rows
import Derived.Laws.Tables
import Derived.Laws.CopyOwn
section
/- The laws on numbers: entry, bounds. -/
namespace Go.Proofs.YtfcfejlffmddnaaGreatDoor
open Go.RowKit
set_option linter.unusedSimpArgs false
set_option linter.unusedVariables false
set_option linter.constructorNameAsVariable false

variable {w0 w : World} {l : List (Option Addr × Nat × Nat × Nat)}
theorem Lists.three (w : World) (A1 : Option Addr) (k1 c1 : Nat) (g1 : List Int) (A2 : Option Addr) (k2 c2 : Nat) (g2 : List Int) (A3 : Option Addr) (k3 c3 : Nat) (g3 : List Int) (i1 : Inp w A1 k1 c1 g1) (i2 : Inp w A2 k2 c2 g2) (i3 : Inp w A3 k3 c3 g3) :
    Lists (w.alloc (.cells #[.slice A1 k1 c1, .slice A2 k2 c2, .slice A3 k3 c3] 23)) w.heap.size 3 [(A1, k1, c1, g1), (A2, k2, c2, g2), (A3, k3, c3, g3)] := by
  refine ⟨rfl, fun j p hp => ?_, fun p hp => ?_⟩
  · rw [Lib.cell_of_heap (World.alloc_heap_new w _)]
    match j, hp with
    | 0, hp => simp at hp; subst hp; rfl
    | 1, hp => simp at hp; subst hp; rfl
    | 2, hp => simp at hp; subst hp; rfl
  · simp only [List.mem_cons, List.not_mem_nil, or_false] at hp
    rcases hp with rfl | rfl | rfl
    · exact ⟨i1.len, i1.lim, i1.rd.alloc _⟩
    · exact ⟨i2.len, i2.lim, i2.rd.alloc _⟩
    · exact ⟨i3.len, i3.lim, i3.rd.alloc _⟩
/-- A list that is a number of at most m elements. -/
def okB (m k : Nat) (g : List Int) : Bool := decide (k ≤ m) && validB g
theorem okB_num {m : Nat} {A : Option Addr} {k c : Nat} {g : List Int} (hi : Inp w A k c g) (h : okB m k g = true) : ∃ x, g = dg x ∧ k ≤ m ∧ k ≤ 1024 ∧ (dg x).length ≤ m := by
  unfold okB at h
  rw [Bool.and_eq_true] at h
  obtain ⟨x, rfl, hx⟩ := validB_num hi.ok h.2
  have h1 := of_decide_eq_true h.1
  have h2 := hi.len
  exact ⟨x, rfl, h1, by omega, by omega⟩
theorem numbers1 (m : Nat) (A1 : Option Addr) (k1 c1 : Nat) (g1 : List Int) (i1 : Inp w A1 k1 c1 g1) (b : Bool) (hb : Hid (okB m k1 g1 = b)) :
    Calls Tryz.prog 39 #[.int .i64 m, .slice (some ⟨w.heap.size, 0, none⟩) 1 1] (w.alloc (.cells #[.slice A1 k1 c1] 23)) fun e w' => e = .returned (.bool b) ∧ Hid (Has w w' []) :=
  (numbers_calls m _ 1 1 _ _ (Lists.one w A1 k1 c1 g1 i1.rd i1.len i1.lim) (by decide) b (Lib.hid (by rw [← hb.out]; simp [okB]))).mono (fun e w' ⟨he, hw⟩ => ⟨he, Lib.hid (hw ▸ (Has.nil w).alloc _)⟩)
theorem numbers2 (m : Nat) (A1 : Option Addr) (k1 c1 : Nat) (g1 : List Int) (A2 : Option Addr) (k2 c2 : Nat) (g2 : List Int) (i1 : Inp w A1 k1 c1 g1) (i2 : Inp w A2 k2 c2 g2) (b : Bool) (hb : Hid ((okB m k1 g1 && okB m k2 g2) = b)) :
    Calls Tryz.prog 39 #[.int .i64 m, .slice (some ⟨w.heap.size, 0, none⟩) 2 2] (w.alloc (.cells #[.slice A1 k1 c1, .slice A2 k2 c2] 23)) fun e w' => e = .returned (.bool b) ∧ Hid (Has w w' []) :=
  (numbers_calls m _ 2 2 _ _ (Lists.two w A1 k1 c1 g1 A2 k2 c2 g2 i1.rd i2.rd i1.len i2.len i1.lim i2.lim) (by decide) b (Lib.hid (by rw [← hb.out]; simp [okB]))).mono (fun e w' ⟨he, hw⟩ => ⟨he, Lib.hid (hw ▸ (Has.nil w).alloc _)⟩)
theorem numbers3 (m : Nat) (A1 : Option Addr) (k1 c1 : Nat) (g1 : List Int) (A2 : Option Addr) (k2 c2 : Nat) (g2 : List Int) (A3 : Option Addr) (k3 c3 : Nat) (g3 : List Int) (i1 : Inp w A1 k1 c1 g1) (i2 : Inp w A2 k2 c2 g2) (i3 : Inp w A3 k3 c3 g3) (b : Bool) (hb : Hid ((okB m k1 g1 && okB m k2 g2 && okB m k3 g3) = b)) :
    Calls Tryz.prog 39 #[.int .i64 m, .slice (some ⟨w.heap.size, 0, none⟩) 3 3] (w.alloc (.cells #[.slice A1 k1 c1, .slice A2 k2 c2, .slice A3 k3 c3] 23)) fun e w' => e = .returned (.bool b) ∧ Hid (Has w w' []) :=
  (numbers_calls m _ 3 3 _ _ (Lists.three w A1 k1 c1 g1 A2 k2 c2 g2 A3 k3 c3 g3 i1 i2 i3) (by decide) b (Lib.hid (by rw [← hb.out]; simp [okB, Bool.and_assoc]))).mono (fun e w' ⟨he, hw⟩ => ⟨he, Lib.hid (hw ▸ (Has.nil w).alloc _)⟩)
theorem Inp.has {A : Option Addr} {k c x : Nat} (h : Inp w A k c (dg x)) (H : Has w0 w l) : Has w0 w ((A, k, c, x) :: l) := H.cons h.rd h.len h.cap h.capm
theorem lenadd {x y i j : Nat} (hx : (dg x).length ≤ i) (hy : (dg y).length ≤ j) : (dg (x + y)).length ≤ i + j + 1 := by
  refine len_of_lt ?_
  have h1 := lt_of_len hx
  have h2 := lt_of_len hy
  have h3 : 4294967296 ^ i ≤ 4294967296 ^ (i + j) := Nat.pow_le_pow_right (by decide) (by omega)
  have h4 : 4294967296 ^ j ≤ 4294967296 ^ (i + j) := Nat.pow_le_pow_right (by decide) (by omega)
  rw [Nat.pow_succ]
  omega
theorem lenmul {x y i j : Nat} (hx : (dg x).length ≤ i) (hy : (dg y).length ≤ j) : (dg (x * y)).length ≤ i + j := by
  refine len_of_lt ?_
  rw [Nat.pow_add]
  exact Nat.mul_lt_mul'' (lt_of_len hx) (lt_of_len hy)
theorem lenle {x y i : Nat} (h : x ≤ y) (hy : (dg y).length ≤ i) : (dg x).length ≤ i := len_of_lt (Nat.lt_of_le_of_lt h (lt_of_len hy))
theorem subO_add {a b : Nat} (h : (dg a).length ≤ 1024) : subO (a + b) b = (0, a) := by
  unfold subO
  rw [if_neg (by omega), Nat.add_sub_cancel, giv_ok h]
theorem giv_le {n i : Nat} (h : (dg n).length ≤ i) (hi : i ≤ 1024) : giv n = (0, n) := giv_ok (Nat.le_trans h hi)
theorem len_zero : (dg 0).length ≤ 0 := by rw [dg_zero]; exact Nat.le_refl _
theorem len_lit {n : Nat} (h : n < 4294967296 ^ 1) : (dg n).length ≤ 1 := len_of_lt h
end Go.Proofs.YtfcfejlffmddnaaGreatDoor
end
section
/- Contracts of the reference: Valid, Cmp. -/
namespace Go.Proofs.YtfcfejlffmddnaaGreatDoor
open Go.RowKit
set_option linter.unusedSimpArgs false
set_option linter.unusedVariables false
set_option linter.constructorNameAsVariable false

set_option maxRecDepth 10000 in
theorem rvalid_calls (A : Option Addr) (c k : Nat) (g : List Int) (w : World) (hk : g.length = k) (hb : k ≤ 9223372036854775807) (hR : Rd .u32 w A g) (b : Bool) (h : Hid (validB g = b)) :
    Calls Tryz.prog 23 #[.slice A k c] w fun e w' => e = .returned (.bool b) ∧ w = w' := by
  have hv := h.out
  unfold validB at hv
  by_cases h1 : k ≤ 1024
  · cases k with
    | zero =>
      have hg : g = [] := List.eq_nil_of_length_eq_zero hk
      obtain rfl : b = true := by rw [← hv, hg]; simp
      clear hv h hR hk hg
      go_enter Tryz.func23, Tryz.ntmps23
      go_wp2
      go_ret
      exact ⟨rfl, rfl⟩
    | succ k =>
      obtain ⟨x, hx⟩ : ∃ x, g[k]? = some x := ⟨_, List.getElem?_eq_getElem (by omega)⟩
      obtain ⟨b1, o, rfl, hcc⟩ := hR (by rintro rfl; simp at hx)
      have hcell := hcc k x hx
      have hl : g.getLast? = some x := by rw [List.getLast?_eq_getElem?, hk]; exact hx
      have hv2 : b = !(x == 0) := by
        rw [← hv, hl, hk]
        by_cases hx0 : x = 0
        · subst hx0; simp
        · rw [show (x == 0) = false from beq_eq_false_iff_ne.2 hx0]
          simp only [Bool.not_false, decide_eq_true_eq]
          exact ⟨h1, fun h => hx0 (Option.some.inj h)⟩
      clear hv h hR hk hcc hx hl
      by_cases hx0 : x = 0
      · subst hx0
        obtain rfl : b = false := by rw [hv2]; rfl
        clear hv2
        go_enter Tryz.func23, Tryz.ntmps23
        go_wp2
        go_ret
        exact ⟨rfl, rfl⟩
      · have hxb : (x == 0) = false := beq_eq_false_iff_ne.2 hx0
        obtain rfl : b = true := by rw [hv2, hxb]; rfl
        clear hv2
        go_enter Tryz.func23, Tryz.ntmps23
        go_wp2
        go_ret
        exact ⟨by simp [hx0, hxb], rfl⟩
  · obtain rfl : b = false := by rw [← hv, hk]; simp [h1]
    clear hv h hR hk
    go_enter Tryz.func23, Tryz.ntmps23
    go_wp2
    go_ret
    exact ⟨rfl, rfl⟩
variable {w0 w : World} {l : List (Option Addr × Nat × Nat × Nat)}
theorem div_top (x m : Nat) : x / 4294967296 ^ m = 4294967296 * (x / 4294967296 ^ (m + 1)) + x / 4294967296 ^ m % 4294967296 := by
  rw [Nat.pow_succ, ← Nat.div_div_eq_div_mul]
  exact (Nat.div_add_mod _ _).symm
theorem cmp_digit {x y m : Nat} (h : x / 4294967296 ^ (m + 1) = y / 4294967296 ^ (m + 1)) :
    (x / 4294967296 ^ m % 4294967296 < y / 4294967296 ^ m % 4294967296 → x < y) ∧ (x / 4294967296 ^ m % 4294967296 = y / 4294967296 ^ m % 4294967296 → x / 4294967296 ^ m = y / 4294967296 ^ m) := by
  have h1 := div_top x m
  have h2 := div_top y m
  rw [h] at h1
  refine ⟨fun h3 => ?_, fun h3 => by omega⟩
  rcases Nat.lt_or_ge x y with h4 | h4
  · exact h4
  · have := Nat.div_le_div_right (c := 4294967296 ^ m) h4
    omega
set_option maxRecDepth 10000 in
set_option maxHeartbeats 1000000 in
theorem rcmp_h (H : Has w0 w l) (A1 : Option Addr) (k1 c1 x : Nat) (A2 : Option Addr) (k2 c2 y : Nat) (h1 : (A1, k1, c1, x) ∈ l) (h2 : (A2, k2, c2, y) ∈ l) (b1 : k1 ≤ 1099511627776) (b2 : k2 ≤ 1099511627776) (r : Int) (hr : Hid (cmpI x y = r)) :
    Calls Tryz.prog 42 #[.slice A1 k1 c1, .slice A2 k2 c2] w fun e w' => e = .returned (.int .i64 r) ∧ w = w' := by
  have e1 := H.len h1
  have e2 := H.len h2
  obtain ⟨N, hN⟩ : ∃ N, max k1 k2 = N := ⟨_, rfl⟩
  have hN2 : max (k1 : Int) (k2 : Int) = (N : Int) := by omega
  have hx0 : x / 4294967296 ^ N = 0 := Nat.div_eq_of_lt (lt_of_len (by omega))
  have hy0 : y / 4294967296 ^ N = 0 := Nat.div_eq_of_lt (lt_of_len (by omega))
  have hA1 := fun (i : Nat) => rat_h H A1 k1 c1 x i h1 b1 _ (Lib.hid (dg_getD x i))
  have hA2 := fun (i : Nat) => rat_h H A2 k2 c2 y i h2 b2 _ (Lib.hid (dg_getD y i))
  have HA1 := Lib.hid hA1
  have HA2 := Lib.hid hA2
  have H0 := Lib.hid (hx0.trans hy0.symm)
  have HN := Lib.hid hN
  have hNb : N ≤ 1099511627776 := by omega
  clear hA1 hA2 hx0 hy0 e1 e2 hN b1 b2 H h1 h2
  go_enter Tryz.func42, Tryz.ntmps42
  go_wp2_with fail
  go_loop [5] (fun v => ∃ m : Nat, m ≤ N ∧ v = .int .i64 ((m : Int) - 1) ∧ Hid (x / 4294967296 ^ m = y / 4294967296 ^ m)) (fun v => (intOf v + 1).toNat)
  case atStart => exact ⟨N, Nat.le_refl _, by first | rfl | (congr 1; omega) | skip, H0⟩
  case round =>
    obtain ⟨m, hm, rfl, he⟩ := hrel
    cases m with
    | zero =>
      obtain rfl : x = y := by simpa using he.out
      obtain rfl : r = 0 := by rw [← hr.out]; unfold cmpI; simp
      clear hr he
      go_wp2_with fail
      go_ret
      exact ⟨rfl, rfl⟩
    | succ m =>
      have hmm : ((m + 1 : Nat) : Int) - 1 = m := by omega
      have hge : decide ((0 : Int) ≤ (m : Int)) = true := decide_eq_true (by omega)
      obtain ⟨xi, hxi⟩ : ∃ xi, x / 4294967296 ^ m % 4294967296 = xi := ⟨_, rfl⟩
      obtain ⟨yi, hyi⟩ : ∃ yi, y / 4294967296 ^ m % 4294967296 = yi := ⟨_, rfl⟩
      have C1 := HA1.out m
      have C2 := HA2.out m
      rw [hxi] at C1
      rw [hyi] at C2
      have D := cmp_digit he.out
      have D2 := cmp_digit he.out.symm
      rw [hxi, hyi] at D D2
      have HD := Lib.hid D
      have HD2 := Lib.hid D2
      clear D D2 he hxi hyi
      rcases Nat.lt_trichotomy xi yi with h | h | h
      · obtain rfl : r = -1 := by rw [← hr.out]; unfold cmpI; rw [if_pos (HD.out.1 h)]
        go_wp2_with fail
        refine C1.mono ?_
        rintro e w' ⟨rfl, rfl⟩
        go_wp2_with fail
        refine C2.mono ?_
        rintro e w' ⟨rfl, rfl⟩
        go_wp2_with fail
        go_ret
        exact ⟨rfl, rfl⟩
      · have HE := Lib.hid (HD.out.2 h)
        subst h
        go_wp2_with fail
        refine C1.mono ?_
        rintro e w' ⟨rfl, rfl⟩
        go_wp2_with fail
        refine C2.mono ?_
        rintro e w' ⟨rfl, rfl⟩
        go_wp2_with fail
        refine C1.mono ?_
        rintro e w' ⟨rfl, rfl⟩
        go_wp2_with fail
        refine C2.mono ?_
        rintro e w' ⟨rfl, rfl⟩
        go_wp2_with fail
        go_round
        case rel => exact ⟨m, by omega, by first | rfl | (congr 1), HE⟩
        case measure => simp [intOf]
      · obtain rfl : r = 1 := by
          have := HD2.out.1 h
          rw [← hr.out]; unfold cmpI; rw [if_neg (by omega), if_pos this]
        have hn : ¬ xi < yi := by omega
        go_wp2_with fail
        refine C1.mono ?_
        rintro e w' ⟨rfl, rfl⟩
        go_wp2_with fail
        refine C2.mono ?_
        rintro e w' ⟨rfl, rfl⟩
        go_wp2_with fail
        refine C1.mono ?_
        rintro e w' ⟨rfl, rfl⟩
        go_wp2_with fail
        refine C2.mono ?_
        rintro e w' ⟨rfl, rfl⟩
        go_wp2_with fail
        go_ret
        exact ⟨rfl, rfl⟩
end Go.Proofs.YtfcfejlffmddnaaGreatDoor
end
section
/- Contracts of the reference: Add. -/
namespace Go.Proofs.YtfcfejlffmddnaaGreatDoor
open Go.RowKit
set_option linter.unusedSimpArgs false
set_option linter.unusedVariables false
set_option linter.constructorNameAsVariable false

theorem own_ge {W : World} {base : Nat} {e : TypeId} {size : Nat} {v : Value} {k : Nat} {xs : List Value} (h : W.ownsRow base e size v k xs) : ∀ j, v.ownBlock = some j → base ≤ j := fun j hj => (h.lt j hj).1
theorem info_u32 : ∃ i, Tryz.prog.info? 57 = some i ∧ i.zero = some (.int .u32 0) ∧ i.size = 1 ∧ i.bytes = 4 := by
  obtain ⟨i, hi, hzz⟩ := Option.map_eq_some_iff.1 info57
  simp only [Prod.mk.injEq] at hzz
  exact ⟨i, hi, hzz.1, hzz.2.1, hzz.2.2⟩
/-- A row of limbs that a loop has made so far. -/
structure Out (w wr : World) (ao : Option Addr) (k cap : Nat) (res : List Int) : Prop where
  row : wr.ownsRow w.heap.size 57 1 (.slice ao k cap) k (res.map (.int .u32))
  bl : Below w.heap.size w wr
  sz : w.heap.size ≤ wr.heap.size
theorem Out.start (w : World) : Out w w none 0 0 [] := ⟨World.ownsRow_nil _ _ _ _, Below.refl _ _, Nat.le_refl _⟩
theorem Out.next {w wr w2 : World} {ao : Option Addr} {k cap : Nat} {res : List Int} (h : Out w wr ao k cap res) {x : Int} {T : TypeId} {ao' : Option Addr} {cap' : Nat}
    (hg : (wr.alloc (.cells #[.int .u32 x] T)).grownBy w2 (Value.slice ao k cap).ownBlock) (ho : w2.ownsRow w.heap.size 57 1 (.slice ao' (k + 1) cap') (k + 1) (res.map (.int .u32) ++ [.int .u32 x])) : Out w w2 ao' (k + 1) cap' (res ++ [x]) := by
  have hs := h.sz
  refine ⟨by simpa using ho, (h.bl.alloc hs _).grown hg (by simp; omega) (fun i hi => own_ge h.row i hi), ?_⟩
  have := hg.size; simp at this; omega
variable {w0 w : World} {l : List (Option Addr × Nat × Nat × Nat)}
/-- The trimmed row is the answer. -/
theorem Out.trim (H : Has w0 w l) {wr : World} {ao : Option Addr} {k cap : Nat} {res : List Int} (h : Out w wr ao k cap res) (hk : res.length = k) (hb : k ≤ 1099511627776) (hd : dgs res) (x : Nat) (hv : vl res = x) (K : Nat) (hK : (dg x).length ≤ K) :
    Calls Tryz.prog 74 #[.slice ao k cap] wr (Made w0 l x K) := by
  obtain ⟨A', c', e, hr, h1, h2⟩ := row_rd hk h.row
  cases e
  refine (rtrim_calls ao cap k res x wr hk h1 h2 hb hd hv hr).mono ?_
  rintro e w' ⟨A2, c2, rfl, hr2, h3, h4, hb2⟩
  exact ⟨A2, _, c2, x, rfl, Lib.hid rfl, hK, ((H.below h.bl).below hb2).cons hr2 rfl h3 h4⟩
set_option maxRecDepth 10000 in
set_option maxHeartbeats 2000000 in
theorem radd_h (H : Has w0 w l) (A1 : Option Addr) (k1 c1 x : Nat) (A2 : Option Addr) (k2 c2 y : Nat) (h1 : (A1, k1, c1, x) ∈ l) (h2 : (A2, k2, c2, y) ∈ l) (b1 : k1 ≤ 10000) (b2 : k2 ≤ 10000) :
    Calls Tryz.prog 43 #[.slice A1 k1 c1, .slice A2 k2 c2] w (Made w0 l (x + y) 10001) := by
  have e1 := Lib.hid (H.len h1)
  have e2 := Lib.hid (H.len h2)
  obtain ⟨i0, hi, hz0, hz1, hz2⟩ := info_u32
  obtain ⟨N, hN⟩ : ∃ N, max k1 k2 = N := ⟨_, rfl⟩
  have hN2 : max (k1 : Int) (k2 : Int) = (N : Int) := by omega
  have hN1 : k1 ≤ N := by omega
  have hN3 : k2 ≤ N := by omega
  have hNb : N ≤ 10000 := by omega
  have HLEN : Hid ((dg (x + y)).length ≤ 10001) := Lib.hid (by have := len_add x y; have := e1.out; have := e2.out; omega)
  have HH := Lib.hid H
  have M1 := Lib.hid h1
  have M2 := Lib.hid h2
  clear hN H h1 h2
  go_enter Tryz.func43, Tryz.ntmps43
  go_wp2_with fail
  go_loopw [5, 6, 7, 8] (fun vo vc vi vs wr => ∃ (i : Nat) (ao : Option Addr) (cap : Nat) (res : List Int) (cy : Int), i ≤ N + 1 ∧ vi = .int .i64 i ∧ vo = .slice ao i cap ∧ vc = .int .u64 cy ∧ 0 ≤ cy ∧ cy ≤ 1 ∧ Hid (AddInv (dg x) (dg y) i res cy) ∧ Hid (Out w wr ao i cap res)) (fun vo vc vi vs wr => N + 1 - (intOf vi).toNat)
  case atStart => exact ⟨0, none, 0, [], 0, by omega, rfl, rfl, rfl, by omega, by omega, Lib.hid (AddInv.start _ _), Lib.hid (Out.start w)⟩
  case round =>
    obtain ⟨i, ao, cap, res, cy, hiN, rfl, rfl, rfl, cy0, cy1, HA, HO⟩ := hrel
    by_cases hlt : i ≤ N
    · obtain ⟨xi, hxi⟩ : ∃ z, (dg x).getD i 0 = z := ⟨_, rfl⟩
      obtain ⟨yi, hyi⟩ : ∃ z, (dg y).getD i 0 = z := ⟨_, rfl⟩
      obtain ⟨x0, x1⟩ := dgs_getD (dgs_dg x) i
      obtain ⟨y0, y1⟩ := dgs_getD (dgs_dg y) i
      rw [hxi] at x0 x1
      rw [hyi] at y0 y1
      have hA := AddInv.step (dgs_dg x) (dgs_dg y) HA.out (xi + yi + cy) (by rw [hxi, hyi]; omega)
      have HAS := Lib.hid hA
      have C1 := rat_h (HH.out.below HO.out.bl) A1 k1 c1 x i M1.out (by omega) xi (Lib.hid hxi)
      have C2 := rat_h (HH.out.below HO.out.bl) A2 k2 c2 y i M2.out (by omega) yi (Lib.hid hyi)
      have hsz := HO.out.sz
      clear hA hxi hyi
      go_wp2_with fail
      refine C1.mono ?_
      rintro e w' ⟨rfl, rfl⟩
      go_wp2_with fail
      refine C2.mono ?_
      rintro e w' ⟨rfl, rfl⟩
      clear C1 C2
      go_wp2_with (at_builtin; refine wpList_append_own _ rfl _ _ 23 rfl w.heap.size 57 i0 (.int .u32 0) 1 4 Tryz.underlying23 hi hz0 hz1 hz2 rfl (by decide) _ _ _ rfl (HO.out.row.alloc _) ⟨wr.heap.size, 0, none⟩ 1 1 [.int .u32 ((xi + yi + cy) % 4294967296)] rfl rfl (cell_one_new _ _ _) (by simp [Value.oneCell']) (by unfold maxLen; omega) (by omega) (by simp; omega) ?_; intro v' w2 hown' hgrow _; have Hg' := Lib.hid (show (wr.alloc (.cells #[.int .u32 ((xi + yi + cy) % 4294967296)] 57)).grownBy w2 (Value.slice ao i cap).ownBlock from hgrow); clear hgrow; obtain ⟨g', cap', rfl⟩ := ownsRow_succ hown'; have HO2 := Lib.hid (HO.out.next Hg'.out hown'); clear hown' Hg')
      go_roundw
      case rel => exact ⟨i + 1, _, cap', _, _, by omega, by go_num, rfl, rfl, by omega, by omega, HAS, HO2⟩
      case measure => simp [intOf]; omega
    · obtain rfl : i = N + 1 := by omega
      have hv := HA.out.fin (by rw [e1.out]; omega) (by rw [e2.out]; omega)
      have HT := Lib.hid (HO.out.trim HH.out HA.out.len (by omega) HA.out.ok (x + y) hv 10001 HLEN.out)
      clear hv
      go_wp2_with fail
      refine HT.out.mono ?_
      rintro e w' ⟨A', k', c', n', rfl, hn, hk, h⟩
      have HF := Lib.hid h
      clear h
      go_wp2_with fail
      go_ret
      exact ⟨A', k', c', n', rfl, hn, hk, HF.out⟩
end Go.Proofs.YtfcfejlffmddnaaGreatDoor
end
section
/- Contracts of the reference: Sub. -/
namespace Go.Proofs.YtfcfejlffmddnaaGreatDoor
open Go.RowKit
set_option linter.unusedSimpArgs false
set_option linter.unusedVariables false
set_option linter.constructorNameAsVariable false

variable {w0 w : World} {l : List (Option Addr × Nat × Nat × Nat)}
set_option maxRecDepth 10000 in
set_option maxHeartbeats 2000000 in
theorem rsub_h (H : Has w0 w l) (A1 : Option Addr) (k1 c1 x : Nat) (A2 : Option Addr) (k2 c2 y : Nat) (h1 : (A1, k1, c1, x) ∈ l) (h2 : (A2, k2, c2, y) ∈ l) (b1 : k1 ≤ 10000) (b2 : k2 ≤ 10000) (hxy : Hid (y ≤ x)) :
    Calls Tryz.prog 44 #[.slice A1 k1 c1, .slice A2 k2 c2] w (Made w0 l (x - y) 10001) := by
  have e1 := Lib.hid (H.len h1)
  have e2 := Lib.hid (H.len h2)
  obtain ⟨i0, hi, hz0, hz1, hz2⟩ := info_u32
  have HLEN : Hid ((dg (x - y)).length ≤ 10001) := Lib.hid (by have := lenle (Nat.sub_le x y) (Nat.le_refl _); have := e1.out; omega)
  have HH := Lib.hid H
  have M1 := Lib.hid h1
  have M2 := Lib.hid h2
  clear H h1 h2
  go_enter Tryz.func44, Tryz.ntmps44
  go_wp2_with fail
  go_loopw [5, 6, 7, 8] (fun vo vc vi vs wr => ∃ (i : Nat) (ao : Option Addr) (cap : Nat) (res : List Int) (cy : Int), i ≤ k1 ∧ vi = .int .i64 i ∧ vo = .slice ao i cap ∧ vc = .int .u64 cy ∧ 0 ≤ cy ∧ cy ≤ 1 ∧ Hid (SubInv (dg x) (dg y) i res cy) ∧ Hid (Out w wr ao i cap res)) (fun vo vc vi vs wr => k1 - (intOf vi).toNat)
  case atStart => exact ⟨0, none, 0, [], 0, by omega, rfl, rfl, rfl, by omega, by omega, Lib.hid (SubInv.start _ _), Lib.hid (Out.start w)⟩
  case round =>
    obtain ⟨i, ao, cap, res, cy, hiN, rfl, rfl, rfl, cy0, cy1, HA, HO⟩ := hrel
    by_cases hlt : i < k1
    · obtain ⟨xi, hxi⟩ : ∃ z, (dg x).getD i 0 = z := ⟨_, rfl⟩
      obtain ⟨yi, hyi⟩ : ∃ z, (dg y).getD i 0 = z := ⟨_, rfl⟩
      obtain ⟨x0, x1⟩ := dgs_getD (dgs_dg x) i
      obtain ⟨y0, y1⟩ := dgs_getD (dgs_dg y) i
      rw [hxi] at x0 x1
      rw [hyi] at y0 y1
      obtain ⟨X, hX⟩ : ∃ X, (xi - yi - cy) % 4294967296 = X := ⟨_, rfl⟩
      obtain ⟨bo, hbo⟩ : ∃ bo : Int, (if xi - yi - cy < 0 then (1 : Int) else 0) = bo := ⟨_, rfl⟩
      obtain ⟨d, hd⟩ : ∃ d : Int, (xi - yi - cy) % 18446744073709551616 = d := ⟨_, rfl⟩
      have f1 : IntKind.u64.wrap (IntKind.u64.wrap (xi - yi) - cy) = d := by unfold IntKind.wrap; simp [IntKind.bits, IntKind.signed]; omega
      have f2 : d % 4294967296 = X := by omega
      have f3 : d / 9223372036854775808 = bo := by split at hbo <;> omega
      have hA := SubInv.step (dgs_dg x) (dgs_dg y) HA.out (xi - yi - cy) (by rw [hxi, hyi])
      rw [hX, hbo] at hA
      have bo0 : 0 ≤ bo := by split at hbo <;> omega
      have bo1 : bo ≤ 1 := by split at hbo <;> omega
      have HAS := Lib.hid hA
      have C1 := rat_h (HH.out.below HO.out.bl) A1 k1 c1 x i M1.out (by omega) xi (Lib.hid hxi)
      have C2 := rat_h (HH.out.below HO.out.bl) A2 k2 c2 y i M2.out (by omega) yi (Lib.hid hyi)
      have hsz := HO.out.sz
      clear hA hxi hyi hX hbo hd
      go_wp2_with fail
      refine C1.mono ?_
      rintro e w' ⟨rfl, rfl⟩
      go_wp2_with fail
      refine C2.mono ?_
      rintro e w' ⟨rfl, rfl⟩
      clear C1 C2
      go_wp2_with (at_builtin; refine wpList_append_own _ rfl _ _ 23 rfl w.heap.size 57 i0 (.int .u32 0) 1 4 Tryz.underlying23 hi hz0 hz1 hz2 rfl (by decide) _ _ _ rfl (HO.out.row.alloc _) ⟨wr.heap.size, 0, none⟩ 1 1 [.int .u32 X] rfl rfl (cell_one_new _ _ _) (by simp [Value.oneCell']) (by unfold maxLen; omega) (by omega) (by simp; omega) ?_; intro v' w2 hown' hgrow _; have Hg' := Lib.hid (show (wr.alloc (.cells #[.int .u32 X] 57)).grownBy w2 (Value.slice ao i cap).ownBlock from hgrow); clear hgrow; obtain ⟨g', cap', rfl⟩ := ownsRow_succ hown'; have HO2 := Lib.hid (HO.out.next Hg'.out hown'); clear hown' Hg')
      go_roundw
      case rel => exact ⟨i + 1, _, cap', _, _, by omega, by go_num, rfl, rfl, by omega, by omega, HAS, HO2⟩
      case measure => simp [intOf]; omega
    · obtain rfl : k1 = i := by omega
      have hv := (show SubInv (dg x) (dg y) (dg x).length res cy by rw [e1.out]; exact HA.out).fin hxy.out
      have HT := Lib.hid (HO.out.trim HH.out HA.out.len (by omega) HA.out.ok (x - y) hv 10001 HLEN.out)
      clear hv
      go_wp2_with fail
      refine HT.out.mono ?_
      rintro e w' ⟨A', k', c', n', rfl, hn, hk, h⟩
      have HF := Lib.hid h
      clear h
      go_wp2_with fail
      go_ret
      exact ⟨A', k', c', n', rfl, hn, hk, HF.out⟩
end Go.Proofs.YtfcfejlffmddnaaGreatDoor
end
section
/- Contracts of the reference: Shr. -/
namespace Go.Proofs.YtfcfejlffmddnaaGreatDoor
open Go.RowKit
set_option linter.unusedSimpArgs false
set_option linter.unusedVariables false
set_option linter.constructorNameAsVariable false

/-- The first digits of a number. -/
structure Digs (m j : Nat) (res : List Int) : Prop where
  len : res.length = j
  dig : ∀ t y, res[t]? = some y → y = ((m / 4294967296 ^ t % 4294967296 : Nat) : Int)
theorem Digs.start (m : Nat) : Digs m 0 [] := ⟨rfl, fun t y h => by simp at h⟩
theorem Digs.next {m j : Nat} {res : List Int} (h : Digs m j res) : Digs m (j + 1) (res ++ [((m / 4294967296 ^ j % 4294967296 : Nat) : Int)]) := by
  refine ⟨by simp [h.len], fun t y hy => ?_⟩
  rw [List.getElem?_append] at hy
  split at hy
  · exact h.dig t y hy
  · rw [List.getElem?_singleton] at hy
    split at hy
    · have : t = j := by have := h.len; omega
      subst this
      injection hy with hy; exact hy.symm
    · cases hy
theorem Digs.ok {m j : Nat} {res : List Int} (h : Digs m j res) : dgs res := fun y hy => by
  obtain ⟨t, ht⟩ := List.mem_iff_getElem?.1 hy
  rw [h.dig t y ht]
  have : m / 4294967296 ^ t % 4294967296 < 4294967296 := Nat.mod_lt _ (by decide)
  omega
theorem Digs.fin {m j : Nat} {res : List Int} (h : Digs m j res) (hm : m < 4294967296 ^ j) : vl res = m := by
  rw [vl_of_digits res m h.dig, h.len, Nat.mod_eq_of_lt hm]
/-- The digit that Shr lays. -/
theorem rshr_digit (a q r j : Nat) (hr : r < 32) :
    ((a / 4294967296 ^ (q + j + 1) % 4294967296 * 4294967296 + a / 4294967296 ^ (q + j) % 4294967296) / 2 ^ r) % 4294967296 = a / 2 ^ (32 * q + r) / 4294967296 ^ j % 4294967296 := by
  obtain ⟨y, hy⟩ : ∃ y, a / 4294967296 ^ (q + j) = y := ⟨_, rfl⟩
  have h1 : a / 4294967296 ^ (q + j + 1) = y / 4294967296 := by rw [Nat.pow_succ, ← Nat.div_div_eq_div_mul, hy]
  have h2 : a / 2 ^ (32 * q + r) / 4294967296 ^ j = y / 2 ^ r := by
    rw [← hy, Nat.div_div_eq_div_mul, Nat.div_div_eq_div_mul]
    congr 1
    rw [Nat.pow_add 2, Nat.pow_add 4294967296, ← pow32 q]
    rw [Nat.mul_assoc, Nat.mul_assoc, Nat.mul_comm (2 ^ r)]
  rw [h1, h2, hy]
  obtain ⟨s, hs⟩ : ∃ s, 32 = r + s := ⟨32 - r, by omega⟩
  have h3 : (4294967296 : Nat) = 2 ^ r * 2 ^ s := by rw [← Nat.pow_add, ← hs]
  have h4 : y / 4294967296 % 4294967296 * 4294967296 + y % 4294967296 = y % (4294967296 * 4294967296) := by omega
  rw [h4]
  have h5 : y % (4294967296 * 4294967296) = y % (2 ^ r * (2 ^ s * 4294967296)) := by rw [← Nat.mul_assoc, ← h3]
  rw [h5, Nat.mod_mul_right_div_self, Nat.mul_comm (2 ^ s), Nat.mod_mul_right_mod]
variable {w0 w : World} {l : List (Option Addr × Nat × Nat × Nat)}
set_option maxRecDepth 10000 in
set_option maxHeartbeats 2000000 in
theorem rshr_h (H : Has w0 w l) (A1 : Option Addr) (k1 c1 x : Nat) (n : Nat) (h1 : (A1, k1, c1, x) ∈ l) (b1 : k1 ≤ 10000) (hn : n ≤ 9223372036854775807) :
    Calls Tryz.prog 52 #[.slice A1 k1 c1, .int .i64 n] w (Made w0 l (x / 2 ^ n) k1) := by
  have e1 := Lib.hid (H.len h1)
  obtain ⟨i0, hi, hz0, hz1, hz2⟩ := info_u32
  obtain ⟨q, hq⟩ : ∃ q, n / 32 = q := ⟨_, rfl⟩
  obtain ⟨r, hr⟩ : ∃ r, n % 32 = r := ⟨_, rfl⟩
  have hnq : n = 32 * q + r := by omega
  have hr32 : r < 32 := by omega
  have x1 : (n : Int).tdiv 32 = (q : Int) := by rw [Int.tdiv_eq_ediv_of_nonneg (by omega)]; omega
  have x2 : (n : Int).tmod 32 = (r : Int) := by rw [Int.tmod_eq_emod_of_nonneg (by omega)]; omega
  have x3 : wrap64 (q : Int) = (q : Int) := by unfold wrap64; omega
  have HLEN : Hid ((dg (x / 2 ^ n)).length ≤ k1) := Lib.hid (lenle (Nat.div_le_self _ _) (Nat.le_of_eq e1.out))
  have HH := Lib.hid H
  have M1 := Lib.hid h1
  have HQ := Lib.hid hnq
  clear H h1 hq hr hnq
  by_cases hqk : k1 ≤ q
  · have HZ : Hid (x / 2 ^ n = 0) := Lib.hid (by
      rw [HQ.out, Nat.pow_add, ← Nat.div_div_eq_div_mul, ← pow32]
      have h1 := lt_of_len (Nat.le_of_eq e1.out)
      have h2 : 4294967296 ^ k1 ≤ 4294967296 ^ q := Nat.pow_le_pow_right (by decide) hqk
      rw [Nat.div_eq_of_lt (Nat.lt_of_lt_of_le h1 h2), Nat.zero_div])
    have hge : decide ((k1 : Int) ≤ (q : Int)) = true := decide_eq_true (by omega)
    go_enter Tryz.func52, Tryz.ntmps52
    go_wp2_with fail
    go_ret
    exact ⟨none, 0, 0, 0, rfl, Lib.hid HZ.out.symm, Nat.zero_le _, HH.out.zero⟩
  · have hge : decide ((k1 : Int) ≤ (q : Int)) = false := decide_eq_false (by omega)
    have hqk' : q < k1 := by omega
    go_enter Tryz.func52, Tryz.ntmps52
    go_wp2_with fail
    go_loopw [5, 6, 7] (fun vo vi vs wr => ∃ (j : Nat) (ao : Option Addr) (cap : Nat) (res : List Int), q + j ≤ k1 ∧ vi = .int .i64 ((q + j : Nat) : Int) ∧ vo = .slice ao j cap ∧ Hid (Digs (x / 2 ^ n) j res) ∧ Hid (Out w wr ao j cap res)) (fun vo vi vs wr => k1 - (intOf vi).toNat)
    case atStart => exact ⟨0, none, 0, [], by omega, rfl, rfl, Lib.hid (Digs.start _), Lib.hid (Out.start w)⟩
    case round =>
      obtain ⟨j, ao, cap, res, hj, rfl, rfl, HA, HO⟩ := hrel
      by_cases hlt : q + j < k1
      · have C1 := rat_h (HH.out.below HO.out.bl) A1 k1 c1 x (q + j + 1) M1.out (by omega) _ (Lib.hid (dg_getD x (q + j + 1)))
        have C2 := rat_h (HH.out.below HO.out.bl) A1 k1 c1 x (q + j) M1.out (by omega) _ (Lib.hid (dg_getD x (q + j)))
        have hD := rshr_digit x q r j hr32
        have hA := HA.out.next
        rw [HQ.out, ← hD] at hA
        obtain ⟨hi1, hh1⟩ : ∃ z, x / 4294967296 ^ (q + j + 1) % 4294967296 = z := ⟨_, rfl⟩
        obtain ⟨lo1, hl1⟩ : ∃ z, x / 4294967296 ^ (q + j) % 4294967296 = z := ⟨_, rfl⟩
        have g1 : hi1 < 4294967296 := by rw [← hh1]; exact Nat.mod_lt _ (by decide)
        have g2 : lo1 < 4294967296 := by rw [← hl1]; exact Nat.mod_lt _ (by decide)
        rw [hh1] at C1 hA
        rw [hl1] at C2 hA
        obtain ⟨y, hy⟩ : ∃ y, (hi1 * 4294967296 + lo1) / 2 ^ r = y := ⟨_, rfl⟩
        rw [hy] at hA
        have f1 : ((hi1 : Int) * 4294967296 + (lo1 : Int)) / 2 ^ r = (y : Int) := by rw [← hy, Int.natCast_ediv, Int.natCast_add, Int.natCast_mul, Int.natCast_pow]; rfl
        have f2 : (y : Int) % 4294967296 = ((y % 4294967296 : Nat) : Int) := by omega
        have HAS := Lib.hid (show Digs (x / 2 ^ n) (j + 1) (res ++ [((y % 4294967296 : Nat) : Int)]) by rw [HQ.out]; exact hA)
        have hsz := HO.out.sz
        have hij : (((q + j : Nat) : Int) + 1) = ((q + j + 1 : Nat) : Int) := by omega
        obtain ⟨X, hX⟩ : ∃ X : Int, ((y % 4294967296 : Nat) : Int) = X := ⟨_, rfl⟩
        rw [hX] at HAS f2
        clear hA hD hh1 hl1 hy hX
        go_wp2_with fail
        refine C1.mono ?_
        rintro e w' ⟨rfl, rfl⟩
        go_wp2_with fail
        refine C2.mono ?_
        rintro e w' ⟨rfl, rfl⟩
        clear C1 C2
        go_wp2_with (at_builtin; refine wpList_append_own _ rfl _ _ 23 rfl w.heap.size 57 i0 (.int .u32 0) 1 4 Tryz.underlying23 hi hz0 hz1 hz2 rfl (by decide) _ _ _ rfl (HO.out.row.alloc _) ⟨wr.heap.size, 0, none⟩ 1 1 [.int .u32 X] rfl rfl (cell_one_new _ _ _) (by simp [Value.oneCell']) (by unfold maxLen; omega) (by omega) (by simp; omega) ?_; intro v' w2 hown' hgrow _; have Hg' := Lib.hid (show (wr.alloc (.cells #[.int .u32 X] 57)).grownBy w2 (Value.slice ao j cap).ownBlock from hgrow); clear hgrow; obtain ⟨g', cap', rfl⟩ := ownsRow_succ hown'; have HO2 := Lib.hid (HO.out.next Hg'.out hown'); clear hown' Hg')
        go_roundw
        case rel => exact ⟨j + 1, _, cap', _, by omega, by first | rfl | go_num | (congr 1), rfl, HAS, HO2⟩
        case measure => simp [intOf]; omega
      · obtain ⟨j', rfl⟩ : ∃ j', j' = j := ⟨_, rfl⟩
        have hkj : k1 = q + j' := by omega
        have hm : x / 2 ^ n < 4294967296 ^ j' := by
          rw [HQ.out, Nat.pow_add, ← Nat.div_div_eq_div_mul, ← pow32]
          refine Nat.lt_of_le_of_lt (Nat.div_le_self _ _) ?_
          refine Nat.div_lt_of_lt_mul ?_
          rw [← Nat.pow_add, ← hkj]
          exact lt_of_len (Nat.le_of_eq e1.out)
        have HT := Lib.hid (HO.out.trim HH.out HA.out.len (by omega) HA.out.ok (x / 2 ^ n) (HA.out.fin hm) k1 HLEN.out)
        have hnl : ¬ q + j' < k1 := hlt
        clear hm hkj
        go_wp2_with fail
        refine HT.out.mono ?_
        rintro e w' ⟨A', k', c', n', rfl, hn, hk, h⟩
        have HF := Lib.hid h
        clear h
        go_wp2_with fail
        go_ret
        exact ⟨A', k', c', n', rfl, hn, hk, HF.out⟩
end Go.Proofs.YtfcfejlffmddnaaGreatDoor
end
section
/- Contracts of the reference: Shl. -/
namespace Go.Proofs.YtfcfejlffmddnaaGreatDoor
open Go.RowKit
set_option linter.unusedSimpArgs false
set_option linter.unusedVariables false
set_option linter.constructorNameAsVariable false

theorem made_take (q c : Nat) (hqc : q ≤ c) : (madeCells #[(.int .u32 0 : Value)] c).toList.take q = (List.replicate q (0 : Int)).map (.int .u32) := by
  apply List.ext_getElem?
  intro i
  rw [List.getElem?_take, List.getElem?_map, List.getElem?_replicate]
  by_cases h : i < q
  · rw [if_pos h, if_pos h]
    have hc : i < c := by omega
    simp [madeCells, hc, Nat.mod_one]
  · rw [if_neg h, if_neg h]; rfl
theorem Out.made (w : World) (q c : Nat) (hqc : q ≤ c) (hc : c ≤ 9223372036854775807) : Out w (w.alloc (.cells (madeCells #[.int .u32 0] c) 57)) (some ⟨w.heap.size, 0, none⟩) q c (List.replicate q 0) :=
  ⟨⟨by simp, .inr ⟨w.heap.size, c, _, rfl, Nat.le_refl _, World.alloc_heap_new w _, hqc, by unfold maxLen; omega, by rw [size_madeCells, Nat.mul_one], by rw [Nat.mul_one]; exact made_take q c hqc⟩⟩,
    (Below.refl _ _).alloc (Nat.le_refl _) _, by simp⟩
theorem make_cap (q c : Nat) (hqc : q ≤ c) (hc : c ≤ 1000000) (W : World) :
    (Instr.makeSlice 23 (.int .i64 (q : Int)) (.int .i64 (c : Int))).run Tryz.prog W = .ok (.slice (some ⟨W.heap.size, 0, none⟩) q c) (W.alloc (.cells (madeCells #[.int .u32 0] c) 57)) := by
  obtain ⟨i0, hi, hz0, hz1, hz2⟩ := info_u32
  have hr := run_make (P := Tryz.prog) W 23 57 i0 (.int .u32 0) Tryz.underlying23 hi hz0 .i64 .i64 q c (by omega) (by omega) (by rw [hz2]; omega) (by omega)
  simp only [Int.toNat_natCast, hz1, Nat.mul_one] at hr
  exact hr
variable {w0 w : World} {l : List (Option Addr × Nat × Nat × Nat)}
set_option maxRecDepth 10000 in
set_option maxHeartbeats 2000000 in
theorem rshl_h (H : Has w0 w l) (A1 : Option Addr) (k1 c1 x : Nat) (n : Nat) (h1 : (A1, k1, c1, x) ∈ l) (b1 : k1 ≤ 10000) (hn : n ≤ 9223372036854775807) (hn0 : k1 ≠ 0 → n ≤ 100000) :
    Calls Tryz.prog 53 #[.slice A1 k1 c1, .int .i64 n] w (Made w0 l (x * 2 ^ n) 20000) := by
  have e1 := Lib.hid (H.len h1)
  by_cases hk : k1 = 0
  · have hx : x = 0 := (dg_nil_iff x).1 (by rw [e1.out, hk])
    subst hk
    subst hx
    have HH := Lib.hid H
    have M1 := Lib.hid h1
    clear H h1
    go_enter Tryz.func53, Tryz.ntmps53
    go_wp2_with fail
    go_ret
    obtain ⟨r1, e, p, q⟩ := HH.out.at M1.out
    exact ⟨A1, 0, c1, 0, rfl, Lib.hid (by rw [Nat.zero_mul]), by omega, HH.out.cons r1 e p q⟩
  · have hn1 := hn0 hk
    have hk0 : ((k1 : Int) == 0) = false := by simp; omega
    obtain ⟨i0, hi, hz0, hz1, hz2⟩ := info_u32
    obtain ⟨q, hq⟩ : ∃ q, n / 32 = q := ⟨_, rfl⟩
    obtain ⟨r, hr⟩ : ∃ r, n % 32 = r := ⟨_, rfl⟩
    have hnq : n = 32 * q + r := by omega
    have hr32 : r < 32 := by omega
    have hq2 : q ≤ 3125 := by omega
    have m1 := make_cap q (q + k1 + 1) (by omega) (by omega)
    rw [show ((q + k1 + 1 : Nat) : Int) = (q : Int) + (k1 : Int) + 1 by omega] at m1
    have HLEN : Hid ((dg (x * 2 ^ n)).length ≤ 20000) := Lib.hid (by
      have h1 := len_mul x (2 ^ n)
      obtain ⟨K, hK⟩ : ∃ K, K = 3126 := ⟨_, rfl⟩
      have h2 : (dg (2 ^ n)).length ≤ K := by
        refine len_of_lt ?_
        rw [pow32]
        exact Nat.pow_lt_pow_right (by decide) (by omega)
      have := e1.out
      omega)
    have x1 : (n : Int).tdiv 32 = (q : Int) := by rw [Int.tdiv_eq_ediv_of_nonneg (by omega)]; omega
    have x2 : (n : Int).tmod 32 = (r : Int) := by rw [Int.tmod_eq_emod_of_nonneg (by omega)]; omega
    have x3 : wrap64 (q : Int) = (q : Int) := by unfold wrap64; omega
    have HH := Lib.hid H
    have M1 := Lib.hid h1
    have HQ := Lib.hid hnq
    obtain ⟨r1, _, _, _⟩ := H.at h1
    obtain ⟨b, o, rfl, hcc⟩ := r1 (by intro h; rw [← List.length_eq_zero_iff, e1.out] at h; exact hk h)
    have HC := Lib.hid hcc
    clear H h1 hq hr hnq r1 hk hcc
    go_enter Tryz.func53, Tryz.ntmps53
    go_wp2_with fail
    go_loopw [5, 6, 7, 8] (fun vo vc vi vs wr => ∃ (i : Nat) (ao : Option Addr) (cap : Nat) (res : List Int) (cy : Int), i ≤ k1 ∧ vi = .int .i64 i ∧ vo = .slice ao (q + i) cap ∧ vc = .int .u64 cy ∧ 0 ≤ cy ∧ cy < 4294967296 ∧ Hid (ShlInv (dg x) q r i res cy) ∧ Hid (Out w wr ao (q + i) cap res)) (fun vo vc vi vs wr => k1 - (intOf vi).toNat)
    case atStart => exact ⟨0, _, _, _, 0, by omega, rfl, rfl, rfl, by omega, by omega, Lib.hid (ShlInv.start _ _ _), Lib.hid (Out.made w q (q + k1 + 1) (by omega) (by omega))⟩
    case round =>
      obtain ⟨i, ao, cap, res, cy, hiN, rfl, rfl, rfl, cy0, cy1, HA, HO⟩ := hrel
      by_cases hlt : i < k1
      · obtain ⟨xi, hxi⟩ : ∃ z, (dg x)[i]? = some z := ⟨_, List.getElem?_eq_getElem (by rw [e1.out]; exact hlt)⟩
        obtain ⟨y0, y1⟩ := dgs_at (dgs_dg x) hxi
        have hcx := HC.out i xi hxi
        have hlt1 := World.block_lt_of_cell? w _ hcx
        rw [← HO.out.bl.cell (p := ⟨b, o + i, none⟩) hlt1] at hcx
        have hA := ShlInv.step (dgs_dg x) HA.out xi hxi (xi * 2 ^ r + cy) (Int.add_comm _ _)
        have hc3 := hA.c1
        have hc4 := hA.c0
        have hp := pow2_32 (show r ≤ 32 by omega)
        have HAS := Lib.hid hA
        have hsz := HO.out.sz
        have hp2 := pow2_pos r
        have hm1 : xi * 2 ^ r ≤ 4294967295 * 4294967296 := Int.mul_le_mul (by omega) hp (by omega) (by omega)
        have hm0 : 0 ≤ xi * 2 ^ r := Int.mul_nonneg y0 (by omega)
        obtain ⟨p, hp3⟩ : ∃ p, xi * 2 ^ r = p := ⟨_, rfl⟩
        rw [hp3] at hm1 hm0 hc3 hc4
        have f1 : IntKind.u64.wrap (xi * 2 ^ r) = p := by rw [hp3]; unfold IntKind.wrap; simp [IntKind.bits, IntKind.signed]; omega
        clear hA hxi
        go_wp2_with (at_builtin; refine wpList_append_own _ rfl _ _ 23 rfl w.heap.size 57 i0 (.int .u32 0) 1 4 Tryz.underlying23 hi hz0 hz1 hz2 rfl (by decide) _ _ _ rfl (HO.out.row.alloc _) ⟨wr.heap.size, 0, none⟩ 1 1 [.int .u32 ((p + cy) % 4294967296)] rfl rfl (cell_one_new _ _ _) (by simp [Value.oneCell']) (by unfold maxLen; omega) (by omega) (by simp; omega) ?_; intro v' w2 hown' hgrow _; have Hg' := Lib.hid (show (wr.alloc (.cells #[.int .u32 ((p + cy) % 4294967296)] 57)).grownBy w2 (Value.slice ao (q + i) cap).ownBlock from hgrow); clear hgrow; obtain ⟨g', cap', rfl⟩ := ownsRow_succ hown'; have HO2 := Lib.hid (HO.out.next Hg'.out hown'); clear hown' Hg')
        go_roundw
        case rel => exact ⟨i + 1, _, cap', _, _, by omega, by go_num, rfl, rfl, hc4, by omega, (by have := HAS; rw [hp3] at this; exact this), HO2⟩
        case measure => simp [intOf]; omega
      · obtain rfl : k1 = i := by omega
        have hsz := HO.out.sz
        have hfin := ShlInv.fin (show ShlInv (dg x) q r (dg x).length res cy by rw [e1.out]; exact HA.out)
        rw [← HQ.out] at hfin
        have hd := dgs_snoc HA.out.ok cy0 cy1
        have hlr : (res ++ [cy]).length = q + k1 + 1 := by rw [List.length_append, HA.out.len]; rfl
        have f2 : cy % 4294967296 = cy := by omega
        have HT := fun (w2 : World) (ao' : Option Addr) (cap' : Nat) (ho : Out w w2 ao' (q + k1 + 1) cap' (res ++ [cy])) => ho.trim HH.out hlr (by omega) hd (x * 2 ^ n) hfin 20000 HLEN.out
        have HTT := Lib.hid HT
        clear HT hfin hd hlr
        go_wp2_with (at_builtin; refine wpList_append_own _ rfl _ _ 23 rfl w.heap.size 57 i0 (.int .u32 0) 1 4 Tryz.underlying23 hi hz0 hz1 hz2 rfl (by decide) _ _ _ rfl (HO.out.row.alloc _) ⟨wr.heap.size, 0, none⟩ 1 1 [.int .u32 cy] rfl rfl (cell_one_new _ _ _) (by simp [Value.oneCell']) (by unfold maxLen; omega) (by omega) (by simp; omega) ?_; intro v' w2 hown' hgrow _; have Hg' := Lib.hid (show (wr.alloc (.cells #[.int .u32 cy] 57)).grownBy w2 (Value.slice ao (q + k1) cap).ownBlock from hgrow); clear hgrow; obtain ⟨g', cap', rfl⟩ := ownsRow_succ hown'; have HO2 := Lib.hid (HO.out.next Hg'.out hown'); clear hown' Hg')
        refine (HTT.out _ _ _ HO2.out).mono ?_
        rintro e w' ⟨A', k', c', n', rfl, hn, hk, h⟩
        have HF := Lib.hid h
        clear h
        go_wp2_with fail
        go_ret
        exact ⟨A', k', c', n', rfl, hn, hk, HF.out⟩
end Go.Proofs.YtfcfejlffmddnaaGreatDoor
end
section
/- Contracts of the reference: Mul. -/
namespace Go.Proofs.YtfcfejlffmddnaaGreatDoor
open Go.RowKit
set_option linter.unusedSimpArgs false
set_option linter.unusedVariables false
set_option linter.constructorNameAsVariable false

variable {w0 w : World} {l : List (Option Addr × Nat × Nat × Nat)}
set_option maxRecDepth 10000 in
set_option maxHeartbeats 1000000 in
theorem rmul_h (H : Has w0 w l) (A1 : Option Addr) (k1 c1 x : Nat) (A2 : Option Addr) (k2 c2 y : Nat) (h1' : (A1, k1, c1, x) ∈ l) (h2' : (A2, k2, c2, y) ∈ l) (hx : k1 ≤ 10000) (hy : k2 ≤ 10000) :
    Calls Tryz.prog 27 #[.slice A1 k1 c1, .slice A2 k2 c2] w (Made w0 l (x * y) (k1 + k2)) := by
  have hk1 := H.len h1'
  have hk2 := H.len h2'
  obtain ⟨h1, _, _, _⟩ := H.at h1'
  obtain ⟨h2, _, _, _⟩ := H.at h2'
  have HH := Lib.hid H
  have HLEN : Hid ((dg (x * y)).length ≤ k1 + k2) := Lib.hid (by have := len_mul x y; omega)
  clear h1' h2' H
  have m1 := run_make_row' (P := Tryz.prog) 23 57 (.int .u32 0) 4 Tryz.underlying23 info57 rfl .i64 .i64 (k1 + k2) (by omega) (by omega)
  rw [Int.natCast_add] at m1
  have HK1 := Lib.hid hk1
  have HK2 := Lib.hid hk2
  have H1 := Lib.hid h1
  have H2 := Lib.hid h2
  clear hk1 hk2 h1 h2
  go_enter Tryz.func27, Tryz.ntmps27
  go_wp2_with fail
  have HW : Hid (Wr (w.alloc (.cells (madeCells #[.int .u32 0] (k1 + k2)) 57)) w.heap.size 0 (List.replicate (k1 + k2) 0)) := Lib.hid (Wr.made _ _ _)
  have HB : Hid (Below w.heap.size w (w.alloc (.cells (madeCells #[.int .u32 0] (k1 + k2)) 57))) := Lib.hid ((Below.refl _ _).alloc (Nat.le_refl _) _)
  go_loopw [6, 7, 8, 9] (fun v19 v7 v8 v9 wr => ∃ (i : Nat) (out : List Int), i ≤ k1 ∧ v19 = .int .i64 i ∧ Hid (MulOut (dg x) (dg y) i out) ∧ Hid (Wr wr w.heap.size 0 out) ∧ Hid (Below w.heap.size w wr)) (fun v19 v7 v8 v9 wr => k1 - (intOf v19).toNat)
  case atStart => exact ⟨0, List.replicate (k1 + k2) 0, Nat.zero_le _, rfl, Lib.hid (by rw [← HK1.out, ← HK2.out]; exact MulOut.start _ _), HW, HB⟩
  case round =>
    obtain ⟨i, out0, hi, rfl, HA, HW2, HB2⟩ := hrel
    by_cases hlt : i < k1
    · obtain ⟨xi, hxi⟩ : ∃ z, (dg x)[i]? = some z := ⟨_, List.getElem?_eq_getElem (by rw [HK1.out]; exact hlt)⟩
      obtain ⟨x0, x1⟩ := dgs_at (dgs_dg x) hxi
      obtain ⟨b1, o1, rfl, r1⟩ := (H1.out.below HB2.out) (by intro h; rw [h] at hxi; simp at hxi)
      have hcx := r1 i xi hxi
      have HX := Lib.hid hxi
      clear r1 hxi
      go_wp2_with fail
      go_loopw [7, 8, 9] (fun v8 v26 v9 wr => ∃ (k : Nat) (out : List Int) (cy : Int), k ≤ k2 ∧ v26 = .int .i64 k ∧ v8 = .int .u64 cy ∧ 0 ≤ cy ∧ cy < 4294967296 ∧ Hid (MulInv (dg y) out0 xi i k out cy) ∧ Hid (Wr wr w.heap.size 0 out) ∧ Hid (Below w.heap.size w wr)) (fun v8 v26 v9 wr => k2 - (intOf v26).toNat)
      case atStart => exact ⟨0, out0, 0, Nat.zero_le _, rfl, rfl, by omega, by omega, Lib.hid (MulInv.start HA.out.ok), HW2, HB2⟩
      case round =>
        obtain ⟨k, out, cy, hk, rfl, rfl, cy0, cy1, HI, HW3, HB3⟩ := hrel
        by_cases hlk : k < k2
        · obtain ⟨yk, hyk⟩ : ∃ z, (dg y)[k]? = some z := ⟨_, List.getElem?_eq_getElem (by rw [HK2.out]; exact hlk)⟩
          obtain ⟨y0, y1⟩ := dgs_at (dgs_dg y) hyk
          obtain ⟨b2, o2, rfl, r2⟩ := (H2.out.below HB3.out) (by intro h; rw [h] at hyk; simp at hyk)
          have hcy := r2 k yk hyk
          obtain ⟨b1', o1', hb', r1'⟩ := (H1.out.below HB3.out) (by intro h; have := HX.out; rw [h] at this; simp at this)
          cases hb'
          have hcx' := r1' i xi HX.out
          clear r1'
          have hlen : i + k < out.length := by rw [HI.out.len, HA.out.len, HK1.out, HK2.out]; omega
          obtain ⟨zk, hzk⟩ : ∃ z, out[i + k]? = some z := ⟨_, List.getElem?_eq_getElem hlen⟩
          obtain ⟨z0, z1⟩ := dgs_at HI.out.ok hzk
          have hcell := HW3.out (i + k) zk hzk
          rw [Nat.zero_add] at hcell
          obtain ⟨hc1, hc2⟩ := hcell
          obtain ⟨m0, m1⟩ := mul_lt_BB x0 x1 y0 y1
          have hI := MulInv.step (dgs_dg y) x0 x1 HI.out yk zk hyk hzk (xi * yk + zk + cy) (Int.add_comm _ _)
          obtain ⟨pr, hpr⟩ : ∃ p, xi * yk = p := ⟨_, rfl⟩
          rw [hpr] at m0 m1 hI
          have hw : ∀ q, Wr ((wr.drewN q).setCell ⟨w.heap.size, i + k, none⟩ (.int .u32 ((pr + zk + cy) % 4294967296))) w.heap.size 0 (out.set (i + k) ((pr + zk + cy) % 4294967296)) := fun q => by
            have := (HW3.out.drewN q).set (i + k) ((pr + zk + cy) % 4294967296)
            rwa [Nat.zero_add] at this
          have HIS := Lib.hid hI
          have HWS := Lib.hid hw
          have HBS := Lib.hid (fun q => (below_drewN HB3.out q).setCell (p := ⟨w.heap.size, i + k, none⟩) (Nat.le_refl _) (.int .u32 ((pr + zk + cy) % 4294967296)))
          clear hyk hzk r2 hI hw hlen
          go_wp2
          go_quiet (fail)
          go_wp2
          go_roundw
          case rel => exact ⟨k + 1, _, _, by omega, by go_num, rfl, by omega, by omega, HIS, Lib.hid (HWS.out _), Lib.hid (HBS.out _)⟩
          case measure => simp [intOf]; omega
        · obtain rfl : k = k2 := by omega
          have hI := HI.out
          rw [← HK2.out] at hI
          have hO := MulOut.step HX.out HA.out hI
          rw [HK2.out] at hO
          have hlen : i + k < out.length := by rw [HI.out.len, HA.out.len, HK1.out, HK2.out]; omega
          obtain ⟨zk, hzk⟩ : ∃ z, out[i + k]? = some z := ⟨_, List.getElem?_eq_getElem hlen⟩
          have hcell := HW3.out (i + k) zk hzk
          rw [Nat.zero_add] at hcell
          obtain ⟨hc1, hc2⟩ := hcell
          have hcm : cy % 4294967296 = cy := Int.emod_eq_of_lt cy0 cy1
          have hw := HW3.out.set (i + k) cy
          rw [Nat.zero_add] at hw
          have HOS := Lib.hid hO
          have HWS := Lib.hid hw
          have HBS := Lib.hid (HB3.out.setCell (p := ⟨w.heap.size, i + k, none⟩) (Nat.le_refl _) (.int .u32 cy))
          clear hzk hI hO hw hlen
          go_wp2_with fail
          go_roundw
          case rel => exact ⟨i + 1, _, by omega, by go_num, HOS, HWS, HBS⟩
          case measure => simp [intOf]; omega
    · obtain rfl : i = k1 := by omega
      have hO := HA.out
      rw [← HK1.out] at hO
      have hv := MulOut.fin hO
      have hlen : out0.length = i + k2 := by rw [HA.out.len, HK1.out, HK2.out]
      have HL := Lib.hid hlen
      have HV := Lib.hid hv
      clear hO hv hlen
      go_wp2_with fail
      refine (rtrim_calls _ (i + k2) (i + k2) out0 (x * y) _ HL.out (Nat.le_refl _) (by omega) (by omega) HA.out.ok HV.out HW2.out.rd).mono ?_
      rintro e w' ⟨A', c', rfl, hr, h3, h4, hb⟩
      go_wp2_with fail
      go_ret
      exact ⟨A', _, c', x * y, rfl, Lib.hid rfl, HLEN.out, ((HH.out.below HB2.out).below hb).cons hr rfl h3 h4⟩
end Go.Proofs.YtfcfejlffmddnaaGreatDoor
end
section
/- Contracts of the reference: Pow. -/
namespace Go.Proofs.YtfcfejlffmddnaaGreatDoor
open Go.RowKit
set_option linter.unusedSimpArgs false
set_option linter.unusedVariables false
set_option linter.constructorNameAsVariable false

variable {w0 w : World} {l : List (Option Addr × Nat × Nat × Nat)}
/-- What the reference's Pow answers. -/
def RPow (w0 : World) (l : List (Option Addr × Nat × Nat × Nat)) (a n : Nat) (e : Ending) (w' : World) : Prop :=
  (Hid (giv (a ^ n) = (2, 0)) ∧ e = .returned (.tuple #[.slice none 0 0, .bool false]) ∧ Hid (Has w0 w' l)) ∨
    ∃ A k c, e = .returned (.tuple #[.slice A k c, .bool true]) ∧ k ≤ 1024 ∧ Hid (Has w0 w' ((A, k, c, a ^ n) :: l))
theorem pow_over {a n i : Nat} (ha : 2 ≤ a) (hi : i + 1 ≤ n) (h : ¬ (dg (a ^ (i + 1))).length ≤ 1024) : giv (a ^ n) = (2, 0) :=
  giv_no (fun h2 => h (lenle (Nat.pow_le_pow_right (by omega) hi) h2))
set_option maxRecDepth 10000 in
set_option maxHeartbeats 2000000 in
theorem rpow_h (H : Has w0 w l) (A1 : Option Addr) (k1 c1 a : Nat) (n : Nat) (h1 : (A1, k1, c1, a) ∈ l) (b1 : k1 ≤ 1024) (hn : n ≤ 9223372036854775807) :
    Calls Tryz.prog 25 #[.slice A1 k1 c1, .int .i64 n] w (RPow w0 l a n) := by
  have e1 := Lib.hid (H.len h1)
  have HH := Lib.hid H
  have M1 := Lib.hid h1
  clear H h1
  by_cases hn0 : n = 0
  · subst hn0
    go_enter Tryz.func25, Tryz.ntmps25
    go_wp2_with fail
    go_ret2
    exact Or.inr ⟨_, 1, 1, rfl, by decide, Lib.hid (HH.out.one 1 (by decide) (by decide))⟩
  have hz : ((n : Int) == 0) = false := by simp; omega
  have HO := Lib.hid (HH.out.one 1 (by decide) (by decide))
  by_cases ha1 : a = 1
  · have HA := Lib.hid ha1
    have HS := rsame_h HO.out A1 k1 c1 a _ 1 1 1 (.tail _ M1.out) (.head _) (Nat.le_trans b1 (by decide)) (by decide) true (Lib.hid (decide_eq_true ha1))
    clear ha1
    go_enter Tryz.func25, Tryz.ntmps25
    go_wp2_with fail
    refine HS.mono ?_
    rintro e w1 ⟨rfl, h⟩
    have H1 := Lib.hid h
    clear h
    go_wp2_with fail
    go_ret2
    refine Or.inr ⟨_, 1, 1, rfl, by decide, Lib.hid ?_⟩
    rw [HA.out, Nat.one_pow]
    exact ((H1.out.keep (fun p hp => .tail _ hp)).one 1 (by decide) (by decide))
  have HS := rsame_h HO.out A1 k1 c1 a _ 1 1 1 (.tail _ M1.out) (.head _) (Nat.le_trans b1 (by decide)) (by decide) false (Lib.hid (decide_eq_false ha1))
  by_cases hk : k1 = 0
  · have HA : Hid (a = 0) := Lib.hid ((dg_nil_iff a).1 (by rw [e1.out, hk]))
    subst hk
    clear ha1
    go_enter Tryz.func25, Tryz.ntmps25
    go_wp2_with fail
    refine HS.mono ?_
    rintro e w1 ⟨rfl, h⟩
    have H1 := Lib.hid h
    clear h
    go_wp2_with fail
    go_ret2
    refine Or.inr ⟨A1, 0, c1, rfl, by decide, Lib.hid ?_⟩
    rw [HA.out, Nat.zero_pow (by omega)]
    have hk := H1.out.keep (l' := l) (fun p hp => .tail _ hp)
    have hm := M1.out
    rw [HA.out] at hm
    obtain ⟨r, x1, x2, x3⟩ := hk.at hm
    exact hk.cons r x1 x2 x3
  · have hk0 : ((k1 : Int) == 0) = false := by simp; omega
    have ha2 : Hid (2 ≤ a) := Lib.hid (by
      have : a ≠ 0 := fun h => by
        have := e1.out
        rw [h, dg_zero] at this
        exact hk this.symm
      omega)
    clear ha1 hk
    go_enter Tryz.func25, Tryz.ntmps25
    go_wp2_with fail
    refine HS.mono ?_
    rintro e w1 ⟨rfl, h⟩
    have H1 := Lib.hid (h.keep (l' := l) (fun p hp => .tail _ hp))
    clear h HS HO
    have H2 := Lib.hid (H1.out.one 1 (by decide) (by decide))
    go_wp2_with fail
    go_loopw [6, 7] (fun vo vi wr => ∃ (i : Nat) (A : Option Addr) (k c : Nat), i ≤ n ∧ vi = .int .i64 i ∧ vo = .slice A k c ∧ k ≤ 1024 ∧ Hid (Has w0 wr ((A, k, c, a ^ i) :: l))) (fun vo vi wr => n - (intOf vi).toNat)
    case atStart => exact ⟨0, _, 1, 1, Nat.zero_le _, rfl, rfl, by decide, by rw [Nat.pow_zero]; exact H2⟩
    case round =>
      obtain ⟨i, A, k, c, hi, rfl, rfl, hkb, HI⟩ := hrel
      by_cases hlt : i < n
      · go_wp2_with fail
        refine (rmul_h HI.out A k c (a ^ i) A1 k1 c1 a (.head _) (.tail _ M1.out) (by omega) (by omega)).mono ?_
        rintro e w2 ⟨A', k', c', n', rfl, hn', hk', h⟩
        rw [hn'.out] at h
        have hlen := h.len (.head _)
        have HX := Lib.hid (show Has w0 w2 ((A', k', c', a ^ (i + 1)) :: l) by
          rw [Nat.pow_succ]
          exact h.keep (fun p hp => by
            rcases List.mem_cons.1 hp with rfl | hp
            · exact .head _
            · exact .tail _ (.tail _ hp)))
        clear h hn'
        by_cases hf : k' ≤ 1024
        · clear hlen
          go_wp2_with fail
          refine (fits_calls A' k' c' _ true (Lib.hid (decide_eq_true hf))).mono ?_
          rintro e w' ⟨rfl, rfl⟩
          go_wp2_with fail
          go_roundw
          case rel => exact ⟨i + 1, A', k', c', by omega, by go_num, rfl, hf, HX⟩
          case measure => simp [intOf]; omega
        · have HG := Lib.hid (pow_over (n := n) ha2.out (by omega : i + 1 ≤ n) (by rw [HX.out.len (.head _)]; exact hf))
          clear hlen
          go_wp2_with fail
          refine (fits_calls A' k' c' _ false (Lib.hid (decide_eq_false hf))).mono ?_
          rintro e w' ⟨rfl, rfl⟩
          go_wp2_with fail
          go_ret2
          exact Or.inl ⟨HG, rfl, Lib.hid (HX.out.keep (fun p hp => .tail _ hp))⟩
      · obtain rfl : n = i := by omega
        go_wp2_with fail
        go_ret2
        exact Or.inr ⟨A, k, c, rfl, hkb, HI⟩
end Go.Proofs.YtfcfejlffmddnaaGreatDoor
end
section
/- Contracts of the reference: Bits, Bit, Zeros. -/
namespace Go.Proofs.YtfcfejlffmddnaaGreatDoor
open Go.RowKit
set_option linter.unusedSimpArgs false
set_option linter.unusedVariables false
set_option linter.constructorNameAsVariable false

variable {w0 w : World} {l : List (Option Addr × Nat × Nat × Nat)}
theorem bl_half {y : Nat} (h : 0 < y) : bl y = bl (y / 2) + 1 := by
  by_cases h2 : y / 2 = 0
  · obtain rfl : y = 1 := by omega
    decide
  · obtain ⟨h3, h4, h5⟩ := bl_spec h2
    obtain ⟨b, hb⟩ : ∃ b, bl (y / 2) = b + 1 := ⟨bl (y / 2) - 1, by omega⟩
    rw [hb] at h4 h5 ⊢
    rw [Nat.add_sub_cancel] at h4
    refine bl_unique ?_ ?_
    · rw [Nat.pow_succ]; omega
    · rw [Nat.pow_succ]; omega
set_option maxRecDepth 10000 in
set_option maxHeartbeats 1000000 in
theorem rbits_h (H : Has w0 w l) (A1 : Option Addr) (k1 c1 x : Nat) (h1 : (A1, k1, c1, x) ∈ l) (b1 : k1 ≤ 10000) :
    Calls Tryz.prog 59 #[.slice A1 k1 c1] w fun e w' => e = .returned (.int .i64 (bl x)) ∧ w = w' := by
  have e1 := H.len h1
  by_cases hx : x = 0
  · subst hx
    rw [dg_zero] at e1
    obtain rfl : k1 = 0 := e1.symm
    clear e1 h1 H
    rw [bl_zero]
    go_enter Tryz.func59, Tryz.ntmps59
    go_wp2_with fail
    go_ret
    exact ⟨rfl, rfl⟩
  · obtain ⟨m, t, hm, ht, ht0, ht1, hb⟩ := top_at x hx
    obtain rfl : k1 = m + 1 := by omega
    obtain ⟨r1, _, _, _⟩ := H.at h1
    obtain ⟨b, o, rfl, hcc⟩ := r1 (by intro h; rw [h] at hm; simp at hm)
    have hcell := hcc m _ ht
    have hmm : ((m + 1 : Nat) : Int) - 1 = m := by omega
    have hk0 : (((m + 1 : Nat) : Int) == 0) = false := by simp; omega
    have HB := Lib.hid hb
    clear hcc ht hm r1 h1 H hx e1 hb
    go_enter Tryz.func59, Tryz.ntmps59
    go_wp2_with fail
    go_loop [4, 5] (fun v4 v5 => ∃ (j y : Nat), v4 = .int .i64 (32 * (m : Int) + j) ∧ v5 = .int .u32 y ∧ j ≤ 32 * 10000 ∧ y < 4294967296 ∧ Hid (bl t = j + bl y)) (fun v4 v5 => (intOf v5).toNat)
    case atStart => exact ⟨0, t, by first | rfl | simp, rfl, by omega, ht1, Lib.hid (Nat.zero_add _).symm⟩
    case round =>
      obtain ⟨j, y, rfl, rfl, hj, hy, HI⟩ := hrel
      by_cases hy0 : 0 < y
      · have HN : Hid (bl t = j + 1 + bl (y / 2)) := Lib.hid (by rw [HI.out, bl_half hy0]; omega)
        have hj2 : j + 1 ≤ 32 * 10000 := by
          have h1 := HN.out
          have h2 : bl t ≤ 32 := (bl_le (n := t) (k := 32)).2 ht1
          omega
        obtain ⟨y2, hy2⟩ : ∃ y2, y / 2 = y2 := ⟨_, rfl⟩
        have f1 : (y : Int).tdiv 2 = (y2 : Int) := by rw [Int.tdiv_eq_ediv_of_nonneg (by omega)]; omega
        have f2 : (y : Int) / 2 = (y2 : Int) := by omega
        have f3 : y2 < y := by omega
        rw [hy2] at HN
        clear hy2
        go_wp2_with fail
        go_round
        case rel => exact ⟨j + 1, y2, by first | rfl | (congr 1; omega), by first | rfl | simp, by omega, by omega, HN⟩
        case measure => simp [intOf]; omega
      · obtain rfl : y = 0 := by omega
        have hf : ((bl x : Nat) : Int) = 32 * (m : Int) + j := by
          have h1 := HI.out
          have h2 := HB.out
          rw [bl_zero] at h1
          omega
        go_wp2_with fail
        go_ret
        exact ⟨by first | rfl | (rw [hf]; rfl), rfl⟩
theorem bit_eq (x i : Nat) : x / 4294967296 ^ (i / 32) % 4294967296 / 2 ^ (i % 32) % 2 = x / 2 ^ i % 2 := by
  obtain ⟨q, hq⟩ : ∃ q, i / 32 = q := ⟨_, rfl⟩
  obtain ⟨r, hr⟩ : ∃ r, i % 32 = r := ⟨_, rfl⟩
  have hi : i = 32 * q + r := by omega
  have hr2 : r < 32 := by omega
  rw [hq, hr, hi, Nat.pow_add, ← Nat.div_div_eq_div_mul, ← pow32]
  generalize x / 4294967296 ^ q = y
  obtain ⟨s, hs⟩ : ∃ s, 32 = r + (s + 1) := ⟨31 - r, by omega⟩
  have h3 : (4294967296 : Nat) = 2 ^ r * (2 ^ s * 2) := by rw [← Nat.pow_succ, ← Nat.pow_add, ← hs]
  rw [h3, Nat.mod_mul_right_div_self, Nat.mul_comm (2 ^ s), Nat.mod_mul_right_mod]
set_option maxRecDepth 10000 in
theorem rbit_h (H : Has w0 w l) (A1 : Option Addr) (k1 c1 x : Nat) (i : Nat) (h1 : (A1, k1, c1, x) ∈ l) (b1 : k1 ≤ 10000) (hi : i ≤ 100000000) (z : Nat) (hz : Hid (x / 2 ^ i % 2 = z)) :
    Calls Tryz.prog 104 #[.slice A1 k1 c1, .int .i64 i] w fun e w' => e = .returned (.int .u64 z) ∧ w = w' := by
  have HA := rat_h H A1 k1 c1 x (i / 32) h1 (by omega) _ (Lib.hid (dg_getD x (i / 32)))
  have hb := bit_eq x i
  rw [hz.out] at hb
  obtain ⟨y, hy⟩ : ∃ y, x / 4294967296 ^ (i / 32) % 4294967296 = y := ⟨_, rfl⟩
  rw [hy] at HA hb
  have hy2 : y < 4294967296 := by rw [← hy]; exact Nat.mod_lt _ (by decide)
  obtain ⟨q, hq⟩ : ∃ q, i / 32 = q := ⟨_, rfl⟩
  obtain ⟨r, hr⟩ : ∃ r, i % 32 = r := ⟨_, rfl⟩
  rw [hq] at HA
  rw [hr] at hb
  have hr2 : r < 32 := by omega
  have x1 : (i : Int).tdiv 32 = (q : Int) := by rw [Int.tdiv_eq_ediv_of_nonneg (by omega)]; omega
  have x2 : (i : Int).tmod 32 = (r : Int) := by rw [Int.tmod_eq_emod_of_nonneg (by omega)]; omega
  have x3 : wrap64 (q : Int) = (q : Int) := by unfold wrap64; omega
  obtain ⟨s, hs⟩ : ∃ s, y / 2 ^ r = s := ⟨_, rfl⟩
  rw [hs] at hb
  have x4 : (y : Int) / 2 ^ r = (s : Int) := by rw [← hs, Int.natCast_ediv, Int.natCast_pow]; rfl
  have x5 : (s : Int).tmod 2 = (z : Int) := by rw [← hb, Int.tmod_eq_emod_of_nonneg (by omega)]; omega
  have x6 : (s : Int) % 2 = (z : Int) := by rw [← hb]; omega
  clear hq hr hs hb hy hz h1 H
  go_enter Tryz.func104, Tryz.ntmps104
  go_wp2_with fail
  refine HA.mono ?_
  rintro e w' ⟨rfl, rfl⟩
  go_wp2_with fail
  go_ret
  exact ⟨rfl, rfl⟩
theorem twos_bit {x z n : Nat} (hx : x ≠ 0) (h : Twos x z) (hn : n ≤ z) : x / 2 ^ n % 2 = if n = z then 1 else 0 := by
  rcases h with ⟨h, _⟩ | ⟨m, hm⟩
  · exact absurd h hx
  · obtain ⟨d, rfl⟩ : ∃ d, z = n + d := ⟨z - n, by omega⟩
    rw [hm, Nat.pow_add, Nat.mul_assoc, Nat.mul_div_cancel_left _ (Nat.pow_pos (by decide))]
    cases d with
    | zero => rw [if_pos (by omega)]; simp
    | succ d => rw [if_neg (by omega), Nat.pow_succ, Nat.mul_assoc, Nat.mul_left_comm]; exact Nat.mul_mod_right _ _
set_option maxRecDepth 10000 in
set_option maxHeartbeats 1000000 in
theorem rzeros_h (H : Has w0 w l) (A1 : Option Addr) (k1 c1 x : Nat) (h1 : (A1, k1, c1, x) ∈ l) (b1 : k1 ≤ 10000) (z : Nat) (hz : Hid (Twos x z)) (hzb : z ≤ 1000000) :
    Calls Tryz.prog 60 #[.slice A1 k1 c1] w fun e w' => e = .returned (.int .i64 z) ∧ w = w' := by
  have e1 := Lib.hid (H.len h1)
  by_cases hx : x = 0
  · subst hx
    have e2 := e1.out
    rw [dg_zero] at e2
    obtain rfl : k1 = 0 := e2.symm
    obtain rfl : z = 0 := by
      rcases hz.out with ⟨_, h⟩ | ⟨m, hm⟩
      · exact h
      · have h1 : 0 < 2 ^ z := Nat.pow_pos (by decide)
        have h2 : 0 < 2 ^ z * (2 * m + 1) := Nat.mul_pos h1 (by omega)
        omega
    clear e2 e1 h1 H hz
    go_enter Tryz.func60, Tryz.ntmps60
    go_wp2_with fail
    go_loop [3] (fun v => v = .int .i64 0) (fun v => 0)
    case atStart => exact rfl
    case round =>
      obtain rfl := hrel
      go_wp2_with fail
      go_ret
      exact ⟨rfl, rfl⟩
  · have hk : 0 < k1 := by
      rcases Nat.eq_zero_or_pos k1 with h | h
      · exact absurd ((dg_nil_iff x).1 (by rw [e1.out, h])) hx
      · exact h
    have HT := Lib.hid (fun n hn => twos_bit hx hz.out (n := n) hn)
    have HB := Lib.hid (fun (n : Nat) (hn : n ≤ 100000000) (v : Nat) hv => rbit_h H A1 k1 c1 x n h1 b1 hn v hv)
    clear hx h1 H hz
    go_enter Tryz.func60, Tryz.ntmps60
    go_wp2_with fail
    go_loop [3] (fun v => ∃ n : Nat, n ≤ z ∧ v = .int .i64 n) (fun v => z - (intOf v).toNat)
    case atStart => exact ⟨0, Nat.zero_le _, rfl⟩
    case round =>
      obtain ⟨n, hn, rfl⟩ := hrel
      have hbit := HT.out n hn
      by_cases he : n = z
      · subst he
        rw [if_pos rfl] at hbit
        go_wp2_with fail
        refine (HB.out n (by omega) 1 (Lib.hid hbit)).mono ?_
        rintro e w' ⟨rfl, rfl⟩
        go_wp2_with fail
        go_ret
        exact ⟨rfl, rfl⟩
      · rw [if_neg he] at hbit
        go_wp2_with fail
        refine (HB.out n (by omega) 0 (Lib.hid hbit)).mono ?_
        rintro e w' ⟨rfl, rfl⟩
        go_wp2_with fail
        go_round
        case rel => exact ⟨n + 1, by omega, by go_num⟩
        case measure => simp [intOf]; omega
end Go.Proofs.YtfcfejlffmddnaaGreatDoor
end
section
/- Contracts of the reference: above. -/
namespace Go.Proofs.YtfcfejlffmddnaaGreatDoor
open Go.RowKit
set_option linter.unusedSimpArgs false
set_option linter.unusedVariables false
set_option linter.constructorNameAsVariable false

variable {w0 w : World} {l : List (Option Addr × Nat × Nat × Nat)}
theorem cmpI_gt (a b : Nat) : (b < a ∧ cmpI a b = 1) ∨ (a ≤ b ∧ ∃ r : Int, cmpI a b = r ∧ ¬ 0 < r) := by
  unfold cmpI
  by_cases h : b < a
  · left; refine ⟨h, ?_⟩; rw [if_neg (by omega), if_pos h]
  · right; refine ⟨by omega, _, rfl, ?_⟩; split <;> first | decide | (rw [if_neg h]; decide)
set_option maxRecDepth 10000 in
set_option maxHeartbeats 2000000 in
theorem rabove_h (H : Has w0 w l) (A1 : Option Addr) (k1 c1 x : Nat) (n : Nat) (A2 : Option Addr) (k2 c2 a : Nat) (h1 : (A1, k1, c1, x) ∈ l) (h2 : (A2, k2, c2, a) ∈ l) (b1 : k1 ≤ 1024) (b2 : k2 ≤ 1024) (hn : n ≤ 9223372036854775807) (hx : Hid (1 ≤ x)) (ha : Hid (1 ≤ a)) (b : Bool) (hb : Hid (decide (a < x ^ n) = b)) :
    Calls Tryz.prog 84 #[.slice A1 k1 c1, .int .i64 n, .slice A2 k2 c2] w fun e w' => e = .returned (.bool b) ∧ Hid (Has w0 w' l) := by
  have HH := Lib.hid H
  have M1 := Lib.hid h1
  have M2 := Lib.hid h2
  have e2 := Lib.hid (H.len h2)
  have H2 := Lib.hid (HH.out.one 1 (by decide) (by decide))
  clear H h1 h2
  go_enter Tryz.func84, Tryz.ntmps84
  go_wp2_with fail
  go_loopw [7, 8] (fun vo vi wr => ∃ (i : Nat) (A : Option Addr) (k c : Nat), i ≤ n ∧ vi = .int .i64 i ∧ vo = .slice A k c ∧ k ≤ 1024 ∧ Hid (x ^ i ≤ a) ∧ Hid (Has w0 wr ((A, k, c, x ^ i) :: l))) (fun vo vi wr => n - (intOf vi).toNat)
  case atStart => exact ⟨0, _, 1, 1, Nat.zero_le _, rfl, rfl, by decide, by rw [Nat.pow_zero]; exact ha, by rw [Nat.pow_zero]; exact H2⟩
  case round =>
    obtain ⟨i, A, k, c, hi, rfl, rfl, hkb, HL, HI⟩ := hrel
    by_cases hlt : i < n
    · go_wp2_with fail
      refine (rmul_h HI.out A k c (x ^ i) A1 k1 c1 x (.head _) (.tail _ M1.out) (by omega) (by omega)).mono ?_
      rintro e w2 ⟨A', k', c', n', rfl, hn', hk', h⟩
      rw [hn'.out] at h
      have HX := Lib.hid (show Has w0 w2 ((A', k', c', x ^ (i + 1)) :: l) by
        rw [Nat.pow_succ]
        exact h.keep (fun p hp => by
          rcases List.mem_cons.1 hp with rfl | hp
          · exact .head _
          · exact .tail _ (.tail _ hp)))
      clear h hn'
      rcases cmpI_gt (x ^ (i + 1)) a with ⟨hg, hc⟩ | ⟨hg, r, hc, hr⟩
      · obtain rfl : b = true := by
          rw [← hb.out]
          exact decide_eq_true (Nat.lt_of_lt_of_le hg (Nat.pow_le_pow_right hx.out hlt))
        have HC := Lib.hid hc
        clear hc hg
        go_wp2_with fail
        refine (rcmp_h HX.out A' k' c' (x ^ (i + 1)) A2 k2 c2 a (.head _) (.tail _ M2.out) (by omega) (by omega) 1 HC).mono ?_
        rintro e w' ⟨rfl, rfl⟩
        go_wp2_with fail
        go_ret
        exact ⟨rfl, Lib.hid (HX.out.keep (fun p hp => .tail _ hp))⟩
      · have hk2 : k' ≤ 1024 := by
          have := HX.out.len (.head _)
          have h3 := lenle hg (Nat.le_of_eq e2.out)
          omega
        have HC := Lib.hid hc
        have HG := Lib.hid hg
        clear hc hg
        go_wp2_with fail
        refine (rcmp_h HX.out A' k' c' (x ^ (i + 1)) A2 k2 c2 a (.head _) (.tail _ M2.out) (by omega) (by omega) r HC).mono ?_
        rintro e w' ⟨rfl, rfl⟩
        go_wp2_with fail
        go_roundw
        case rel => exact ⟨i + 1, A', k', c', by omega, by go_num, rfl, hk2, HG, HX⟩
        case measure => simp [intOf]; omega
    · obtain rfl : n = i := by omega
      obtain rfl : b = false := by rw [← hb.out]; exact decide_eq_false (by have := HL.out; omega)
      go_wp2_with fail
      go_ret
      exact ⟨rfl, Lib.hid (HI.out.keep (fun p hp => .tail _ hp))⟩
end Go.Proofs.YtfcfejlffmddnaaGreatDoor
end
section
/- A result cell of two slices. -/
namespace Go.Proofs.YtfcfejlffmddnaaGreatDoor
open Go.RowKit
set_option linter.unusedSimpArgs false
set_option linter.unusedVariables false
set_option linter.constructorNameAsVariable false

variable {w0 w : World} {l : List (Option Addr × Nat × Nat × Nat)}
/-- A cell of two slices. -/
def DCell (w : World) (b : Nat) (v1 v2 : Value) : Prop := (∃ T, w.heap[b]? = some (.cells #[v1, v2] T (0, 0))) ∧ (∀ n, v1 ≠ .int .u32 n) ∧ (∀ n, v2 ≠ .int .u32 n)
theorem DCell.below {w w' : World} {B b : Nat} {v1 v2 : Value} (h : DCell w b v1 v2) (hlt : b < B) (hb : Below B w w') : DCell w' b v1 v2 := by
  obtain ⟨⟨T, h1⟩, h2, h3⟩ := h
  exact ⟨⟨T, (hb.block b hlt).trans h1⟩, h2, h3⟩
theorem DCell.new (w : World) (T : TypeId) : DCell (w.alloc (.cells #[.slice none 0 0, .slice none 0 0] T)) w.heap.size (.slice none 0 0) (.slice none 0 0) :=
  ⟨⟨T, World.alloc_heap_new w _⟩, (fun n => by simp), (fun n => by simp)⟩
theorem Rd.setRow {w : World} {A : Option Addr} {g : List Int} {b : Nat} {v1 v2 : Value} (h : Rd .u32 w A g) (hD : DCell w b v1 v2) (cs : Array Value) : Rd .u32 (w.setRow b cs) A g := fun hn => by
  obtain ⟨b1, o, e, hc⟩ := h hn
  obtain ⟨⟨T, h1⟩, h2, h3⟩ := hD
  refine ⟨b1, o, e, fun j y hy => ?_⟩
  have hcj := hc j y hy
  rw [cell_setRow_other]
  · exact hcj
  · intro hq
    have hq' : b1 = b := hq
    subst hq'
    rw [Lib.cell_of_heap h1] at hcj
    obtain ⟨i, hi⟩ : ∃ i, o + j = i := ⟨_, rfl⟩
    rw [hi] at hcj
    match i, hcj with
    | 0, hcj => exact h2 y (by simpa using hcj)
    | 1, hcj => exact h3 y (by simpa using hcj)
    | i + 2, hcj => simp at hcj
/-- The struct is laid into the result cell: what was alive stays alive. -/
theorem has_cell (H : Has w0 w l) {w1 W : World} (T : TypeId) (hw : w.alloc (.cells #[.slice none 0 0, .slice none 0 0] T) = w1) {l' : List (Option Addr × Nat × Nat × Nat)} (HW : Has w1 W l') (cs : Array Value) : Has w0 (W.setRow w.heap.size cs) l' := by
  have hs : w1.heap.size = w.heap.size + 1 := by rw [← hw]; simp
  have hD : DCell W w.heap.size (.slice none 0 0) (.slice none 0 0) := DCell.below (by rw [← hw]; exact DCell.new w T) (by omega) HW.b
  have hb : Below w0.heap.size w0 W := H.b.trans (((show Below w.heap.size w w1 by rw [← hw]; exact (Below.refl _ w).alloc (Nat.le_refl _) _).trans (HW.b.mono (by omega))).mono H.b.size)
  exact ⟨below_setRow hb H.b.size cs, fun p hp => ⟨(HW.r p hp).1.setRow hD cs, (HW.r p hp).2⟩⟩
theorem DCell.row {w W w1 : World} (T : TypeId) (hw : w.alloc (.cells #[.slice none 0 0, .slice none 0 0] T) = w1) {l' : List (Option Addr × Nat × Nat × Nat)} (HW : Has w1 W l') : W.heap[w.heap.size]? = some (.cells #[.slice none 0 0, .slice none 0 0] T (0, 0)) := by
  have hs : w1.heap.size = w.heap.size + 1 := by rw [← hw]; simp
  rw [HW.b.block _ (by omega), ← hw]
  exact World.alloc_heap_new w _
end Go.Proofs.YtfcfejlffmddnaaGreatDoor
end
section
/- Contracts of the reference: Root. -/
namespace Go.Proofs.YtfcfejlffmddnaaGreatDoor
open Go.RowKit
set_option linter.unusedSimpArgs false
set_option linter.unusedVariables false
set_option linter.constructorNameAsVariable false

variable {w0 w : World} {l : List (Option Addr × Nat × Nat × Nat)}
/-- A quotient and a rest. -/
def RDiv (w0 : World) (l : List (Option Addr × Nat × Nat × Nat)) (q r : Nat) (e : Ending) (w' : World) : Prop :=
  ∃ A k c A' k' c', e = .returned (.agg #[.slice A k c, .slice A' k' c']) ∧ k ≤ 10000 ∧ k' ≤ 10000 ∧ Hid (Has w0 w' ((A, k, c, q) :: (A', k', c', r) :: l))
set_option maxRecDepth 10000 in
set_option maxHeartbeats 2000000 in
theorem rroot_low (H : Has w0 w l) (A1 : Option Addr) (k1 c1 a : Nat) (n : Nat) (h1 : (A1, k1, c1, a) ∈ l) (b1 : k1 ≤ 12) (ha : a ≤ 1) (hn : 1 ≤ n) (hnb : n ≤ 9223372036854775807) :
    Calls Tryz.prog 34 #[.slice A1 k1 c1, .int .i64 n] w (RDiv w0 l a 0) := by
  have HH := Lib.hid H
  have M1 := Lib.hid h1
  have hc : Hid (∃ r : Int, cmpI a 1 = r ∧ r ≤ 0) := Lib.hid (by
    unfold cmpI
    by_cases h : a < 1
    · exact ⟨_, if_pos h, by decide⟩
    · exact ⟨_, by rw [if_neg h, if_neg (by omega)], by decide⟩)
  obtain ⟨r, hr, hr0⟩ := hc.out
  have HR := Lib.hid hr
  obtain ⟨w1, hw1⟩ : ∃ w1, w.alloc (.cells #[.slice none 0 0, .slice none 0 0] 40) = w1 := ⟨_, rfl⟩
  have hD : DCell w1 w.heap.size (.slice none 0 0) (.slice none 0 0) := by rw [← hw1]; exact DCell.new w _
  have hs1 : w1.heap.size = w.heap.size + 1 := by rw [← hw1]; simp
  have H1 : Hid (Has w1 w1 l) := Lib.hid (by rw [← hw1]; exact (HH.out.alloc _).rebase)
  have HD := Lib.hid hD
  have HW1 := Lib.hid hw1
  have HO := Lib.hid (H1.out.one 1 (by decide) (by decide))
  have C := rcmp_h HO.out A1 k1 c1 a _ 1 1 1 (.tail _ M1.out) (.head _) (by omega) (by decide) r HR
  clear H h1 ha hr hc hD hs1
  go_enter Tryz.func34, Tryz.ntmps34
  go_wp2_with fail
  refine C.mono ?_
  rintro e w' ⟨rfl, rfl⟩
  have HG := DCell.row 40 HW1.out HO.out
  go_wp2_with (refine wpList_store_row (o := { dst := none, op := .store 40 (.tmp 4) (.tmp 15), type := 0, pos := _, after := _, guard := none }) rfl 40 (.tmp 4) (.tmp 15) rfl w.heap.size #[.slice A1 k1 c1, .slice none 0 0] rfl rfl 40 #[.slice none 0 0, .slice none 0 0] HG (by kernel_rfl) rfl (by simp [Value.oneCell']) ?_)
  refine bodyPost_ret (results_cell_row rfl _ _ w.heap.size 40 _ (0, 0) _ rfl (setRow_heap _ _ _ _ _ _ HG) Tryz.underlying40 rfl (by kernel_rfl)) rfl ?_
  have HF := has_cell HH.out 40 HW1.out HO.out #[.slice A1 k1 c1, .slice none 0 0]
  have HF2 := HF.keep (l' := l) (fun p hp => .tail _ hp)
  obtain ⟨r1, x1, x2, x3⟩ := HF2.at M1.out
  exact ⟨A1, k1, c1, none, 0, 0, rfl, by omega, by omega, Lib.hid (HF2.zero.cons r1 x1 x2 x3)⟩
set_option maxRecDepth 10000 in
set_option maxHeartbeats 2000000 in
theorem rroot_mid (H : Has w0 w l) (A1 : Option Addr) (k1 c1 a : Nat) (n : Nat) (h1 : (A1, k1, c1, a) ∈ l) (b1 : k1 ≤ 12) (ha : 2 ≤ a) (hn : bl a ≤ n) (hnb : n ≤ 9223372036854775807) :
    Calls Tryz.prog 34 #[.slice A1 k1 c1, .int .i64 n] w (RDiv w0 l 1 (a - 1)) := by
  have HH := Lib.hid H
  have M1 := Lib.hid h1
  have HA := Lib.hid ha
  have HR : Hid (cmpI a 1 = 1) := Lib.hid (by unfold cmpI; rw [if_neg (by omega), if_pos (by omega)])
  obtain ⟨w1, hw1⟩ : ∃ w1, w.alloc (.cells #[.slice none 0 0, .slice none 0 0] 40) = w1 := ⟨_, rfl⟩
  obtain ⟨W0, hW0⟩ : ∃ W, w1.alloc (.cells #[.int .u32 1] 57) = W := ⟨_, rfl⟩
  obtain ⟨W2, hW2⟩ : ∃ W, W0.alloc (.cells #[.int .u32 1] 57) = W := ⟨_, rfl⟩
  obtain ⟨W3, hW3⟩ : ∃ W, W2.alloc (.cells #[.int .u32 1] 57) = W := ⟨_, rfl⟩
  have H1 : Hid (Has w1 w1 l) := Lib.hid (by rw [← hw1]; exact (HH.out.alloc _).rebase)
  have HW1 := Lib.hid hw1
  have HO : Hid (Has w1 W0 ((some ⟨w1.heap.size, 0, none⟩, 1, 1, 1) :: l)) := Lib.hid (by rw [← hW0]; exact H1.out.one 1 (by decide) (by decide))
  have HO2 : Hid (Has w1 W2 ((some ⟨W0.heap.size, 0, none⟩, 1, 1, 1) :: (some ⟨w1.heap.size, 0, none⟩, 1, 1, 1) :: l)) := Lib.hid (by rw [← hW2]; exact HO.out.one 1 (by decide) (by decide))
  have HO3 : Hid (Has w1 W3 ((some ⟨W2.heap.size, 0, none⟩, 1, 1, 1) :: (some ⟨W0.heap.size, 0, none⟩, 1, 1, 1) :: (some ⟨w1.heap.size, 0, none⟩, 1, 1, 1) :: l)) := Lib.hid (by rw [← hW3]; exact HO2.out.one 1 (by decide) (by decide))
  have C := rcmp_h HO.out A1 k1 c1 a _ 1 1 1 (.tail _ M1.out) (.head _) (by omega) (by decide) 1 HR
  have B := rbits_h HO.out A1 k1 c1 a (.tail _ M1.out) (by omega)
  have S3 := rsub_h HO3.out A1 k1 c1 a _ 1 1 1 (.tail _ (.tail _ (.tail _ M1.out))) (.head _) (by omega) (by decide) (Lib.hid (by omega))
  clear H h1 ha
  go_enter Tryz.func34, Tryz.ntmps34
  go_wp2_with fail
  refine C.mono ?_
  rintro e w' ⟨rfl, rfl⟩
  clear C
  go_wp2_with fail
  refine B.mono ?_
  rintro e w' ⟨rfl, rfl⟩
  clear B
  go_wp2_with fail
  refine S3.mono ?_
  rintro e w4 ⟨A', k', c', n', rfl, hn', hk', h⟩
  rw [hn'.out] at h
  have HX := Lib.hid h
  clear h hn' S3
  have HG := DCell.row 40 HW1.out HX.out
  go_wp2_with (refine wpList_store_row (o := { dst := none, op := .store 40 (.tmp 4) (.tmp 24), type := 0, pos := _, after := _, guard := none }) rfl 40 (.tmp 4) (.tmp 24) rfl w.heap.size #[.slice (some ⟨W0.heap.size, 0, none⟩) 1 1, .slice A' k' c'] rfl rfl 40 #[.slice none 0 0, .slice none 0 0] HG (by kernel_rfl) rfl (by simp [Value.oneCell']) ?_)
  refine bodyPost_ret (results_cell_row rfl _ _ w.heap.size 40 _ (0, 0) _ rfl (setRow_heap _ _ _ _ _ _ HG) Tryz.underlying40 rfl (by kernel_rfl)) rfl ?_
  have HF := has_cell HH.out 40 HW1.out HX.out #[.slice (some ⟨W0.heap.size, 0, none⟩) 1 1, .slice A' k' c']
  refine ⟨_, 1, 1, A', k', c', rfl, by decide, ?_, Lib.hid (HF.keep (fun p hp => ?_))⟩
  · have := HF.len (.head _)
    have h2 := lenle (Nat.sub_le a 1) (Nat.le_of_eq (HH.out.len M1.out))
    omega
  · rcases List.mem_cons.1 hp with rfl | hp
    · exact .tail _ (.tail _ (.head _))
    · rcases List.mem_cons.1 hp with rfl | hp
      · exact .head _
      · exact .tail _ (.tail _ (.tail _ (.tail _ hp)))
end Go.Proofs.YtfcfejlffmddnaaGreatDoor
end
section
/- Contracts of the reference: Root, the loop. -/
namespace Go.Proofs.YtfcfejlffmddnaaGreatDoor
open Go.RowKit
set_option linter.unusedSimpArgs false
set_option linter.unusedVariables false
set_option linter.constructorNameAsVariable false

variable {w0 w : World} {l : List (Option Addr × Nat × Nat × Nat)}
theorem root_start {a n q : Nat} (hn : 1 ≤ n) (hq : bl a / n = q) : a < (0 + 2 ^ (q + 1)) ^ n := by
  rw [Nat.zero_add, ← Nat.pow_mul]
  refine Nat.lt_of_lt_of_le (bl_lt a) (Nat.pow_le_pow_right (by decide) ?_)
  have h1 := Nat.div_add_mod (bl a) n
  have h2 := Nat.mod_lt (bl a) (by omega : 0 < n)
  rw [hq] at h1
  rw [Nat.add_mul, Nat.one_mul, Nat.mul_comm]
  omega
set_option maxRecDepth 10000 in
set_option maxHeartbeats 4000000 in
theorem rroot_high (H : Has w0 w l) (A1 : Option Addr) (k1 c1 a : Nat) (n : Nat) (h1 : (A1, k1, c1, a) ∈ l) (b1 : k1 ≤ 12) (ha : 2 ≤ a) (hn1 : 1 ≤ n) (hn : n < bl a) :
    Calls Tryz.prog 34 #[.slice A1 k1 c1, .int .i64 n] w fun e w' => ∃ r, Hid (r ^ n ≤ a ∧ a < (r + 1) ^ n) ∧ RDiv w0 l r (a - r ^ n) e w' := by
  have HH := Lib.hid H
  have M1 := Lib.hid h1
  have HA := Lib.hid ha
  have HLA := Lib.hid (H.len h1)
  have hbl : bl a ≤ 384 := Nat.le_trans (bl_len a) (by have := HLA.out; omega)
  have HR : Hid (cmpI a 1 = 1) := Lib.hid (by unfold cmpI; rw [if_neg (by omega), if_pos (by omega)])
  obtain ⟨q, hq⟩ : ∃ q, bl a / n = q := ⟨_, rfl⟩
  have hq2 : q ≤ 384 := by rw [← hq]; exact Nat.le_trans (Nat.div_le_self _ _) hbl
  have HST := Lib.hid (root_start hn1 hq)
  have x1 : ((bl a : Nat) : Int).tdiv (n : Int) = (q : Int) := by rw [Int.tdiv_eq_ediv_of_nonneg (by omega), ← hq]; exact (Int.natCast_ediv _ _).symm
  have x3 : wrap64 (q : Int) = (q : Int) := by unfold wrap64; omega
  have hn0 : ((n : Int) == 0) = false := by simp; omega
  obtain ⟨w1, hw1⟩ : ∃ w1, w.alloc (.cells #[.slice none 0 0, .slice none 0 0] 40) = w1 := ⟨_, rfl⟩
  obtain ⟨W0, hW0⟩ : ∃ W, w1.alloc (.cells #[.int .u32 1] 57) = W := ⟨_, rfl⟩
  have H1 : Hid (Has w1 w1 l) := Lib.hid (by rw [← hw1]; exact (HH.out.alloc _).rebase)
  have HW1 := Lib.hid hw1
  have HO : Hid (Has w1 W0 ((some ⟨w1.heap.size, 0, none⟩, 1, 1, 1) :: l)) := Lib.hid (by rw [← hW0]; exact H1.out.one 1 (by decide) (by decide))
  have HOl : Hid (Has w1 W0 l) := Lib.hid (HO.out.keep (fun p hp => .tail _ hp))
  have C := rcmp_h HO.out A1 k1 c1 a _ 1 1 1 (.tail _ M1.out) (.head _) (by omega) (by decide) 1 HR
  have B := rbits_h HO.out A1 k1 c1 a (.tail _ M1.out) (by omega)
  generalize bl a = ba at x1 B hn hbl
  clear H h1 ha hq
  go_enter Tryz.func34, Tryz.ntmps34
  go_wp2_with fail
  refine C.mono ?_
  rintro e w' ⟨rfl, rfl⟩
  clear C
  go_wp2_with fail
  refine B.mono ?_
  rintro e w' ⟨rfl, rfl⟩
  go_wp2_with fail
  refine B.mono ?_
  rintro e w' ⟨rfl, rfl⟩
  clear B
  go_wp2_with fail
  go_loopw [5, 6, 7] (fun vr vi vx wr => ∃ (m : Nat) (A : Option Addr) (k c r : Nat), m ≤ q + 1 ∧ vi = .int .i64 ((m : Int) - 1) ∧ vr = .slice A k c ∧ k ≤ 12 ∧ Hid (r ^ n ≤ a ∧ a < (r + 2 ^ m) ^ n) ∧ Hid (Has w1 wr ((A, k, c, r) :: l))) (fun vr vi vx wr => (intOf vi + 1).toNat)
  case atStart => exact ⟨q + 1, none, 0, 0, 0, Nat.le_refl _, by first | rfl | (congr 1; omega), rfl, by decide, Lib.hid ⟨by rw [Nat.zero_pow (by omega)]; exact Nat.zero_le _, HST.out⟩, Lib.hid HOl.out.zero⟩
  case round =>
    obtain ⟨m, A, k, c, r, hm, rfl, rfl, hk, HI, HX⟩ := hrel
    cases m with
    | succ m =>
      have hmm : ((m + 1 : Nat) : Int) - 1 = m := by omega
      have hge : decide ((0 : Int) ≤ (m : Int)) = true := decide_eq_true (by omega)
      obtain ⟨V, hV⟩ : ∃ V, wr.alloc (.cells #[.int .u32 1] 57) = V := ⟨_, rfl⟩
      have HL : Hid (Has w1 V ((some ⟨wr.heap.size, 0, none⟩, 1, 1, 1) :: (A, k, c, r) :: l)) := Lib.hid (by rw [← hV]; exact HX.out.one 1 (by decide) (by decide))
      have S := rshl_h HL.out _ 1 1 1 m (.head _) (by decide) (by omega) (fun _ => by omega)
      go_wp2_with fail
      refine S.mono ?_
      rintro e w2 ⟨A2, k2, c2, n2, rfl, hn2, hk2, h⟩
      rw [hn2.out, Nat.one_mul] at h
      have H2 := Lib.hid h
      have hl2 : k2 ≤ 13 := by
        rw [← H2.out.len (.head _)]
        refine len_of_lt ?_
        obtain ⟨K, hK⟩ : ∃ K, K = 13 := ⟨_, rfl⟩
        rw [← hK, pow32]
        exact Nat.pow_lt_pow_right (by decide) (by omega)
      clear h hn2 S hk2
      go_wp2_with fail
      refine (radd_h H2.out A k c r A2 k2 c2 (2 ^ m) (.tail _ (.tail _ (.head _))) (.head _) (by omega) (by omega)).mono ?_
      rintro e w3 ⟨A3, k3, c3, n3, rfl, hn3, hk3, h⟩
      rw [hn3.out] at h
      have H3 := Lib.hid h
      have hl3 : k3 ≤ 26 := by
        rw [← H3.out.len (.head _)]
        have := lenadd (Nat.le_of_eq (H3.out.len (.tail _ (.tail _ (.tail _ (.head _)))))) (Nat.le_of_eq (H3.out.len (.tail _ (.head _))))
        omega
      clear h hn3 hk3
      obtain ⟨b, hb⟩ : ∃ b, Hid (decide (a < (r + 2 ^ m) ^ n) = b) := ⟨_, Lib.hid rfl⟩
      go_wp2_with fail
      refine (rabove_h H3.out A3 k3 c3 (r + 2 ^ m) n A1 k1 c1 a (.head _) (.tail _ (.tail _ (.tail _ (.tail _ M1.out)))) (by omega) (by omega) (by omega) (Lib.hid (by have : 0 < 2 ^ m := Nat.pow_pos (by decide); omega)) (Lib.hid (by have := HA.out; omega)) b hb).mono ?_
      rintro e w4 ⟨rfl, H4⟩
      cases b with
      | true =>
        have HN : Hid (r ^ n ≤ a ∧ a < (r + 2 ^ m) ^ n) := Lib.hid ⟨HI.out.1, of_decide_eq_true hb.out⟩
        have HK : Hid (Has w1 w4 ((A, k, c, r) :: l)) := Lib.hid (H4.out.keep (fun p hp => .tail _ (.tail _ (.tail _ hp))))
        clear hb
        go_wp2_with fail
        go_roundw
        case rel => exact ⟨m, A, k, c, r, by omega, by first | rfl | (congr 1), rfl, hk, HN, HK⟩
        case measure => simp [intOf]
      | false =>
        have hle : (r + 2 ^ m) ^ n ≤ a := Nat.not_lt.1 (of_decide_eq_false hb.out)
        have HN : Hid ((r + 2 ^ m) ^ n ≤ a ∧ a < (r + 2 ^ m + 2 ^ m) ^ n) := Lib.hid ⟨hle, by have := HI.out.2; rwa [Nat.pow_succ, Nat.mul_two, ← Nat.add_assoc] at this⟩
        have HK : Hid (Has w1 w4 ((A3, k3, c3, r + 2 ^ m) :: l)) := Lib.hid (H4.out.keep (fun p hp => by
          rcases List.mem_cons.1 hp with rfl | hp
          · exact .head _
          · exact .tail _ (.tail _ (.tail _ (.tail _ hp)))))
        have hk4 : k3 ≤ 12 := by
          rw [← H4.out.len (.head _)]
          refine lenle (Nat.le_trans (Nat.le_self_pow (by omega) _) hle) ?_
          rw [HLA.out]; exact b1
        clear hb hle
        go_wp2_with fail
        go_roundw
        case rel => exact ⟨m, A3, k3, c3, r + 2 ^ m, by omega, by first | rfl | (congr 1), rfl, hk4, HN, HK⟩
        case measure => simp [intOf]
    | zero =>
      have HI2 : Hid (r ^ n ≤ a ∧ a < (r + 1) ^ n) := Lib.hid (by have := HI.out; rwa [Nat.pow_zero] at this)
      clear HI
      go_wp2_with fail
      refine (rpow_h HX.out A k c r n (.head _) (by omega) (by omega)).mono ?_
      rintro e w2 (⟨hg, rfl, H2⟩ | ⟨A2, k2, c2, rfl, hk2, H2⟩)
      · exfalso
        have h1 := hg.out
        rw [giv_ok (Nat.le_trans (lenle HI2.out.1 (Nat.le_of_eq HLA.out)) (by omega))] at h1
        cases h1
      · go_wp2_with fail
        refine (rsub_h H2.out A1 k1 c1 a A2 k2 c2 (r ^ n) (.tail _ (.tail _ M1.out)) (.head _) (by omega) (by omega) (Lib.hid HI2.out.1)).mono ?_
        rintro e w3 ⟨A3, k3, c3, n3, rfl, hn3, hk3, h⟩
        rw [hn3.out] at h
        have H3 := Lib.hid h
        clear h hn3
        have HG := DCell.row 40 HW1.out H3.out
        go_wp2_with (refine wpList_store_row (o := { dst := none, op := .store 40 (.tmp 4) (.tmp 54), type := 0, pos := _, after := _, guard := none }) rfl 40 (.tmp 4) (.tmp 54) rfl w.heap.size #[.slice A k c, .slice A3 k3 c3] rfl rfl 40 #[.slice none 0 0, .slice none 0 0] HG (by kernel_rfl) rfl (by simp [Value.oneCell']) ?_)
        refine bodyPost_ret (results_cell_row rfl _ _ w.heap.size 40 _ (0, 0) _ rfl (setRow_heap _ _ _ _ _ _ HG) Tryz.underlying40 rfl (by kernel_rfl)) rfl ?_
        have HF := has_cell HH.out 40 HW1.out H3.out #[.slice A k c, .slice A3 k3 c3]
        refine ⟨r, HI2, A, k, c, A3, k3, c3, rfl, by omega, ?_, Lib.hid (HF.keep (fun p hp => ?_))⟩
        · have h1 := HF.len (.head _)
          have h2 := lenle (Nat.sub_le a (r ^ n)) (Nat.le_of_eq HLA.out)
          omega
        · rcases List.mem_cons.1 hp with rfl | hp
          · exact .tail _ (.tail _ (.head _))
          · rcases List.mem_cons.1 hp with rfl | hp
            · exact .head _
            · exact .tail _ (.tail _ (.tail _ hp))
end Go.Proofs.YtfcfejlffmddnaaGreatDoor
end
section
/- The law NatRoots. -/
namespace Go.Proofs.YtfcfejlffmddnaaGreatDoor
open Go.RowKit
set_option linter.unusedSimpArgs false
set_option linter.unusedVariables false
set_option linter.constructorNameAsVariable false

variable {w0 w : World} {l : List (Option Addr × Nat × Nat × Nat)}
theorem wf_int {n : Int} (h : (Lit.int .i64 n).wf = true) : n ≤ 9223372036854775807 := by
  simp [Lit.wf, IntKind.min, IntKind.max, IntKind.signed, IntKind.bits] at h
  omega
theorem rroot_h (H : Has w0 w l) (A1 : Option Addr) (k1 c1 a : Nat) (n : Nat) (h1 : (A1, k1, c1, a) ∈ l) (b1 : k1 ≤ 12) (hn1 : 1 ≤ n) (hnb : n ≤ 9223372036854775807) :
    Calls Tryz.prog 34 #[.slice A1 k1 c1, .int .i64 n] w fun e w' => ∃ r, Hid (r ^ n ≤ a ∧ a < (r + 1) ^ n) ∧ RDiv w0 l r (a - r ^ n) e w' := by
  by_cases ha : 2 ≤ a
  · by_cases hn : n < bl a
    · exact rroot_high H A1 k1 c1 a n h1 b1 ha hn1 hn
    · refine (rroot_mid H A1 k1 c1 a n h1 b1 ha (by omega) hnb).mono (fun e w' h => ⟨1, Lib.hid ⟨by rw [Nat.one_pow]; omega, ?_⟩, by rw [Nat.one_pow]; exact h⟩)
      exact Nat.lt_of_lt_of_le (bl_lt a) (Nat.pow_le_pow_right (by decide) (by omega))
  · have hp : a ^ n = a := pow_le_one (by omega) (by omega)
    refine (rroot_low H A1 k1 c1 a n h1 b1 (by omega) hn1 hnb).mono (fun e w' h => ⟨a, Lib.hid ⟨by rw [hp]; exact Nat.le_refl _, ?_⟩, by rw [hp, Nat.sub_self]; exact h⟩)
    exact Nat.lt_of_lt_of_le (Nat.lt_succ_self a) (Nat.le_self_pow (by omega) _)
set_option maxRecDepth 100000 in
set_option maxHeartbeats 4000000 in
theorem roots_calls (w : World) (hT : Tabs w) (A1 : Option Addr) (k1 c1 : Nat) (g1 : List Int) (i1 : Inp w A1 k1 c1 g1) (n : Int) (wn : (Lit.int .i64 n).wf = true) :
    Calls Tryz.prog 5 #[.slice A1 k1 c1, .int .i64 n] w (True1 w) := by
  have HT := Lib.hid hT
  have I1 := Lib.hid i1
  have H0 := Lib.hid (Has.nil w)
  clear hT i1
  have hnb := wf_int wn
  clear wn
  by_cases q1 : k1 ≤ 12
  case neg =>
    go_enter Tryz.func5, Tryz.ntmps5
    go_wp2_with fail
    refine (light_calls A1 k1 c1 12 w false (Lib.hid (decide_eq_false q1))).mono ?_
    rintro e w' ⟨rfl, rfl⟩
    go_wp2_with fail
    refine (sanity_at H0 HT).mono ?_
    rintro e w1 ⟨rfl, H1⟩
    clear H0
    go_wp2_with fail
    go_ret
    exact ⟨rfl, H1.out.b⟩
  cases v1 : validB g1
  case false =>
    go_enter Tryz.func5, Tryz.ntmps5
    go_wp2_with fail
    refine (light_calls A1 k1 c1 12 w true (Lib.hid (decide_eq_true q1))).mono ?_
    rintro e w' ⟨rfl, rfl⟩
    go_wp2_with fail
    refine (Root_bad A1 k1 c1 g1 n w I1.out.rd I1.out.len I1.out.lim (Lib.hid v1)).mono ?_
    rintro e w1 h0
    obtain ⟨B1, j1, d1, B1', j1', d1', rfl, b1, b1', h⟩ := h0.gave H0.out
    have H1 := Lib.hid h
    clear h H0
    obtain rfl := H1.out.none (.head _)
    obtain rfl := H1.out.none (.tail _ (.head _))
    go_wp2_with fail
    refine (rvalid_calls A1 c1 k1 g1 _ I1.out.len I1.out.lim (I1.out.rd.below H1.out.b) false (Lib.hid v1)).mono ?_
    rintro e w' ⟨rfl, rfl⟩
    go_wp2_with fail
    refine (sanity_at H1 HT).mono ?_
    rintro e w2 ⟨rfl, H2⟩
    clear H1
    go_wp2_with fail
    refine (refused_calls B1 d1 1 1 _ true (Lib.hid (by simp))).mono ?_
    rintro e w' ⟨rfl, rfl⟩
    go_wp2_with fail
    go_ret
    exact ⟨rfl, H2.out.b⟩
  obtain ⟨a, rfl, e1, _⟩ := I1.out.num H0.out v1
  have HV := Lib.hid v1
  clear v1
  by_cases hn : n < 1
  case pos =>
    go_enter Tryz.func5, Tryz.ntmps5
    go_wp2_with fail
    refine (light_calls A1 k1 c1 12 w true (Lib.hid (decide_eq_true q1))).mono ?_
    rintro e w' ⟨rfl, rfl⟩
    have h := ((I1.out.below H0.out.b).has (H0.out))
    have H1 := Lib.hid h
    clear h H0
    go_wp2_with fail
    refine (Root_neg H1.out A1 k1 c1 (a) n (.head _) e1 hn).mono ?_
    rintro e w2 h0
    obtain ⟨B2, j2, d2, B2', j2', d2', rfl, b2, b2', h⟩ := h0.gave H1.out
    have H2 := Lib.hid h
    clear h H1
    obtain rfl := H2.out.none (.head _)
    obtain rfl := H2.out.none (.tail _ (.head _))
    go_wp2_with fail
    refine (rvalid_calls A1 c1 k1 (dg a) _ I1.out.len I1.out.lim (I1.out.rd.below H2.out.b) true HV).mono ?_
    rintro e w' ⟨rfl, rfl⟩
    go_wp2_with fail
    refine (sanity_at H2 HT).mono ?_
    rintro e w3 ⟨rfl, H3⟩
    clear H2
    go_wp2_with fail
    refine (refused_calls B2 d2 1 1 _ true (Lib.hid (by simp))).mono ?_
    rintro e w' ⟨rfl, rfl⟩
    go_wp2_with fail
    go_ret
    exact ⟨rfl, H3.out.b⟩
  obtain ⟨m, rfl⟩ : ∃ m : Nat, n = m := ⟨n.toNat, by omega⟩
  have hmb : m ≤ 9223372036854775807 := by omega
  have hm1 : 1 ≤ m := by omega
  have q1' := q1
  clear hnb
  go_enter Tryz.func5, Tryz.ntmps5
  go_wp2_with fail
  refine (light_calls A1 k1 c1 12 w true (Lib.hid (decide_eq_true q1))).mono ?_
  rintro e w' ⟨rfl, rfl⟩
  have h := ((I1.out.below H0.out.b).has (H0.out))
  have H1 := Lib.hid h
  clear h H0
  go_wp2_with fail
  refine (Root_x H1.out A1 k1 c1 (a) m (.head _) e1 hm1 hmb).mono ?_
  rintro e w2 ⟨r, hr, B2, j2, d2, B2', j2', d2', rfl, b2, b2', h⟩
  have H2 := Lib.hid h
  clear h H1
  go_wp2_with fail
  refine (rvalid_calls A1 c1 k1 (dg a) _ I1.out.len I1.out.lim (I1.out.rd.below H2.out.b) true HV).mono ?_
  rintro e w' ⟨rfl, rfl⟩
  go_wp2_with fail
  refine (rroot_h H2.out A1 k1 c1 (a) m (.tail _ (.tail _ (.head _))) q1' hm1 hmb).mono ?_
  rintro e w3 ⟨r2, hr2, B3, j3, d3, B3', j3', d3', rfl, b3, b3', H3⟩
  clear H2
  obtain rfl : r = r2 := root_unique hr.out hr2.out
  clear hr2
  obtain ⟨W, hW⟩ : ∃ W, w3.alloc (.cells #[.slice B3 j3 d3, .slice B3' j3' d3'] 40) = W := ⟨_, rfl⟩
  have HB1 : Hid (Below w.heap.size w W) := Lib.hid (by rw [← hW]; exact (H3.out.alloc _).b)
  have HBB : Hid (Has W W _) := Lib.hid (by rw [← hW]; exact (H3.out.alloc _).rebase)
  have HT2 : Hid (Tabs W) := Lib.hid (HT.out.below HB1.out)
  have HC0 : Hid (W.heap[w3.heap.size]? = some (.cells #[.slice B3 j3 d3, .slice B3' j3' d3'] 40 (0, 0)) ∧ w3.heap.size < W.heap.size) := Lib.hid (by rw [← hW]; exact ⟨World.alloc_heap_new _ _, by simp⟩)
  have HW := Lib.hid hW
  have HD := Lib.hid (World.alloc_heap_new w3 (.cells #[.slice none 0 0, .slice none 0 0] 40))
  clear H3
  go_wp2_with (refine wpList_store_row (o := { dst := none, op := .store 40 (.tmp 8) (.tmp 40), type := 0, pos := _, after := _, guard := none }) rfl 40 (.tmp 8) (.tmp 40) rfl w3.heap.size #[.slice B3 j3 d3, .slice B3' j3' d3'] rfl rfl 40 #[.slice none 0 0, .slice none 0 0] HD.out (by kernel_rfl) rfl (by simp [Value.oneCell']) ?_; rw [World.setRow_alloc_new, HW.out])
  refine (sanity_at HBB HT2).mono ?_
  rintro e w4 ⟨rfl, H4⟩
  clear HBB
  have c0 : w4.cell? ⟨w3.heap.size, 0, none⟩ = some (.slice B3 j3 d3) := by rw [Lib.cell_of_heap ((H4.out.b.block _ HC0.out.2).trans HC0.out.1)]; rfl
  have c1' : w4.cell? ⟨w3.heap.size, 1, none⟩ = some (.slice B3' j3' d3') := by rw [Lib.cell_of_heap ((H4.out.b.block _ HC0.out.2).trans HC0.out.1)]; rfl
  have HQ : Hid (giv r = (0, r)) := Lib.hid (giv_ok (Nat.le_trans (lenle (Nat.le_trans (Nat.le_self_pow (by omega) r) hr.out.1) (Nat.le_of_eq I1.out.len)) e1))
  go_wp2_with fail
  refine (is_giv H4.out B2 j2 d2 (r) B3 j3 d3 (r) 0 (.tail _ (.tail _ (.head _))) (.head _) b2 (HQ) true rfl).mono ?_
  rintro e w5 ⟨rfl, h⟩
  have H5 := Lib.hid h
  clear h H4
  clear c0 c1'
  have c0 : w5.cell? ⟨w3.heap.size, 0, none⟩ = some (.slice B3 j3 d3) := by rw [Lib.cell_of_heap ((H5.out.b.block _ HC0.out.2).trans HC0.out.1)]; rfl
  have c1' : w5.cell? ⟨w3.heap.size, 1, none⟩ = some (.slice B3' j3' d3') := by rw [Lib.cell_of_heap ((H5.out.b.block _ HC0.out.2).trans HC0.out.1)]; rfl
  go_wp2_with fail
  refine (rsame_h H5.out B2' j2' d2' (a - r ^ m) B3' j3' d3' (a - r ^ m) (.tail _ (.tail _ (.tail _ (.head _)))) (.tail _ (.head _)) (Nat.le_trans b2' (by decide)) (Nat.le_trans b3' (by decide)) true (Lib.hid (decide_eq_true rfl))).mono ?_
  rintro e w6 ⟨rfl, h⟩
  have H6 := Lib.hid h
  clear h H5
  go_wp2_with fail
  go_ret
  exact ⟨rfl, HB1.out.trans (H6.out.b.mono HB1.out.size)⟩
end Go.Proofs.YtfcfejlffmddnaaGreatDoor
end
