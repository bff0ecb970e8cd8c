/- The law NatTexts: its walk. -/
import Derived.Test.YtfcfejlffmddnaaGreatDoorM13
import Derived.RangeFuncBox
import Derived.Maps.AppendAt
import Derived.Laws.Rows
import Derived.Laws.Tables
import Derived.Laws.CopyOwn
import Derived.Lib.SlBytesRow
section
/- Contracts of the reference: Valid, Cmp. -/
namespace Go.Proofs.YtfcfejlffmddnaaGreatDoor
open Go.RowKit
set_option linter.unusedSimpArgs false
set_option linter.unusedVariables false
set_option linter.constructorNameAsVariable false

set_option maxRecDepth 10000 in
theorem rvalid_calls (A : Option Addr) (c k : Nat) (g : List Int) (w : World) (hk : g.length = k) (hb : k ≤ 9223372036854775807) (hR : Rd .u32 w A g) (b : Bool) (h : Hid (validB g = b)) :
    Calls Tryz.prog 23 #[.slice A k c] w fun e w' => e = .returned (.bool b) ∧ w = w' := by
  have hv := h.out
  unfold validB at hv
  by_cases h1 : k ≤ 1024
  · cases k with
    | zero =>
      have hg : g = [] := List.eq_nil_of_length_eq_zero hk
      obtain rfl : b = true := by rw [← hv, hg]; simp
      clear hv h hR hk hg
      go_enter Tryz.func23, Tryz.ntmps23
      go_wp2
      go_ret
      exact ⟨rfl, rfl⟩
    | succ k =>
      obtain ⟨x, hx⟩ : ∃ x, g[k]? = some x := ⟨_, List.getElem?_eq_getElem (by omega)⟩
      obtain ⟨b1, o, rfl, hcc⟩ := hR (by rintro rfl; simp at hx)
      have hcell := hcc k x hx
      have hl : g.getLast? = some x := by rw [List.getLast?_eq_getElem?, hk]; exact hx
      have hv2 : b = !(x == 0) := by
        rw [← hv, hl, hk]
        by_cases hx0 : x = 0
        · subst hx0; simp
        · rw [show (x == 0) = false from beq_eq_false_iff_ne.2 hx0]
          simp only [Bool.not_false, decide_eq_true_eq]
          exact ⟨h1, fun h => hx0 (Option.some.inj h)⟩
      clear hv h hR hk hcc hx hl
      by_cases hx0 : x = 0
      · subst hx0
        obtain rfl : b = false := by rw [hv2]; rfl
        clear hv2
        go_enter Tryz.func23, Tryz.ntmps23
        go_wp2
        go_ret
        exact ⟨rfl, rfl⟩
      · have hxb : (x == 0) = false := beq_eq_false_iff_ne.2 hx0
        obtain rfl : b = true := by rw [hv2, hxb]; rfl
        clear hv2
        go_enter Tryz.func23, Tryz.ntmps23
        go_wp2
        go_ret
        exact ⟨by simp [hx0, hxb], rfl⟩
  · obtain rfl : b = false := by rw [← hv, hk]; simp [h1]
    clear hv h hR hk
    go_enter Tryz.func23, Tryz.ntmps23
    go_wp2
    go_ret
    exact ⟨rfl, rfl⟩
variable {w0 w : World} {l : List (Option Addr × Nat × Nat × Nat)}
theorem div_top (x m : Nat) : x / 4294967296 ^ m = 4294967296 * (x / 4294967296 ^ (m + 1)) + x / 4294967296 ^ m % 4294967296 := by
  rw [Nat.pow_succ, ← Nat.div_div_eq_div_mul]
  exact (Nat.div_add_mod _ _).symm
theorem cmp_digit {x y m : Nat} (h : x / 4294967296 ^ (m + 1) = y / 4294967296 ^ (m + 1)) :
    (x / 4294967296 ^ m % 4294967296 < y / 4294967296 ^ m % 4294967296 → x < y) ∧ (x / 4294967296 ^ m % 4294967296 = y / 4294967296 ^ m % 4294967296 → x / 4294967296 ^ m = y / 4294967296 ^ m) := by
  have h1 := div_top x m
  have h2 := div_top y m
  rw [h] at h1
  refine ⟨fun h3 => ?_, fun h3 => by omega⟩
  rcases Nat.lt_or_ge x y with h4 | h4
  · exact h4
  · have := Nat.div_le_div_right (c := 4294967296 ^ m) h4
    omega
set_option maxRecDepth 10000 in
set_option maxHeartbeats 1000000 in
theorem rcmp_h (H : Has w0 w l) (A1 : Option Addr) (k1 c1 x : Nat) (A2 : Option Addr) (k2 c2 y : Nat) (h1 : (A1, k1, c1, x) ∈ l) (h2 : (A2, k2, c2, y) ∈ l) (b1 : k1 ≤ 1099511627776) (b2 : k2 ≤ 1099511627776) (r : Int) (hr : Hid (cmpI x y = r)) :
    Calls Tryz.prog 42 #[.slice A1 k1 c1, .slice A2 k2 c2] w fun e w' => e = .returned (.int .i64 r) ∧ w = w' := by
  have e1 := H.len h1
  have e2 := H.len h2
  obtain ⟨N, hN⟩ : ∃ N, max k1 k2 = N := ⟨_, rfl⟩
  have hN2 : max (k1 : Int) (k2 : Int) = (N : Int) := by omega
  have hx0 : x / 4294967296 ^ N = 0 := Nat.div_eq_of_lt (lt_of_len (by omega))
  have hy0 : y / 4294967296 ^ N = 0 := Nat.div_eq_of_lt (lt_of_len (by omega))
  have hA1 := fun (i : Nat) => rat_h H A1 k1 c1 x i h1 b1 _ (Lib.hid (dg_getD x i))
  have hA2 := fun (i : Nat) => rat_h H A2 k2 c2 y i h2 b2 _ (Lib.hid (dg_getD y i))
  have HA1 := Lib.hid hA1
  have HA2 := Lib.hid hA2
  have H0 := Lib.hid (hx0.trans hy0.symm)
  have HN := Lib.hid hN
  have hNb : N ≤ 1099511627776 := by omega
  clear hA1 hA2 hx0 hy0 e1 e2 hN b1 b2 H h1 h2
  go_enter Tryz.func42, Tryz.ntmps42
  go_wp2_with fail
  go_loop [5] (fun v => ∃ m : Nat, m ≤ N ∧ v = .int .i64 ((m : Int) - 1) ∧ Hid (x / 4294967296 ^ m = y / 4294967296 ^ m)) (fun v => (intOf v + 1).toNat)
  case atStart => exact ⟨N, Nat.le_refl _, by first | rfl | (congr 1; omega) | skip, H0⟩
  case round =>
    obtain ⟨m, hm, rfl, he⟩ := hrel
    cases m with
    | zero =>
      obtain rfl : x = y := by simpa using he.out
      obtain rfl : r = 0 := by rw [← hr.out]; unfold cmpI; simp
      clear hr he
      go_wp2_with fail
      go_ret
      exact ⟨rfl, rfl⟩
    | succ m =>
      have hmm : ((m + 1 : Nat) : Int) - 1 = m := by omega
      have hge : decide ((0 : Int) ≤ (m : Int)) = true := decide_eq_true (by omega)
      obtain ⟨xi, hxi⟩ : ∃ xi, x / 4294967296 ^ m % 4294967296 = xi := ⟨_, rfl⟩
      obtain ⟨yi, hyi⟩ : ∃ yi, y / 4294967296 ^ m % 4294967296 = yi := ⟨_, rfl⟩
      have C1 := HA1.out m
      have C2 := HA2.out m
      rw [hxi] at C1
      rw [hyi] at C2
      have D := cmp_digit he.out
      have D2 := cmp_digit he.out.symm
      rw [hxi, hyi] at D D2
      have HD := Lib.hid D
      have HD2 := Lib.hid D2
      clear D D2 he hxi hyi
      rcases Nat.lt_trichotomy xi yi with h | h | h
      · obtain rfl : r = -1 := by rw [← hr.out]; unfold cmpI; rw [if_pos (HD.out.1 h)]
        go_wp2_with fail
        refine C1.mono ?_
        rintro e w' ⟨rfl, rfl⟩
        go_wp2_with fail
        refine C2.mono ?_
        rintro e w' ⟨rfl, rfl⟩
        go_wp2_with fail
        go_ret
        exact ⟨rfl, rfl⟩
      · have HE := Lib.hid (HD.out.2 h)
        subst h
        go_wp2_with fail
        refine C1.mono ?_
        rintro e w' ⟨rfl, rfl⟩
        go_wp2_with fail
        refine C2.mono ?_
        rintro e w' ⟨rfl, rfl⟩
        go_wp2_with fail
        refine C1.mono ?_
        rintro e w' ⟨rfl, rfl⟩
        go_wp2_with fail
        refine C2.mono ?_
        rintro e w' ⟨rfl, rfl⟩
        go_wp2_with fail
        go_round
        case rel => exact ⟨m, by omega, by first | rfl | (congr 1), HE⟩
        case measure => simp [intOf]
      · obtain rfl : r = 1 := by
          have := HD2.out.1 h
          rw [← hr.out]; unfold cmpI; rw [if_neg (by omega), if_pos this]
        have hn : ¬ xi < yi := by omega
        go_wp2_with fail
        refine C1.mono ?_
        rintro e w' ⟨rfl, rfl⟩
        go_wp2_with fail
        refine C2.mono ?_
        rintro e w' ⟨rfl, rfl⟩
        go_wp2_with fail
        refine C1.mono ?_
        rintro e w' ⟨rfl, rfl⟩
        go_wp2_with fail
        refine C2.mono ?_
        rintro e w' ⟨rfl, rfl⟩
        go_wp2_with fail
        go_ret
        exact ⟨rfl, rfl⟩
end Go.Proofs.YtfcfejlffmddnaaGreatDoor
end
section
/- Contracts of the reference: Add. -/
namespace Go.Proofs.YtfcfejlffmddnaaGreatDoor
open Go.RowKit
set_option linter.unusedSimpArgs false
set_option linter.unusedVariables false
set_option linter.constructorNameAsVariable false

theorem own_ge {W : World} {base : Nat} {e : TypeId} {size : Nat} {v : Value} {k : Nat} {xs : List Value} (h : W.ownsRow base e size v k xs) : ∀ j, v.ownBlock = some j → base ≤ j := fun j hj => (h.lt j hj).1
theorem info_u32 : ∃ i, Tryz.prog.info? 57 = some i ∧ i.zero = some (.int .u32 0) ∧ i.size = 1 ∧ i.bytes = 4 := by
  obtain ⟨i, hi, hzz⟩ := Option.map_eq_some_iff.1 info57
  simp only [Prod.mk.injEq] at hzz
  exact ⟨i, hi, hzz.1, hzz.2.1, hzz.2.2⟩
/-- A row of limbs that a loop has made so far. -/
structure Out (w wr : World) (ao : Option Addr) (k cap : Nat) (res : List Int) : Prop where
  row : wr.ownsRow w.heap.size 57 1 (.slice ao k cap) k (res.map (.int .u32))
  bl : Below w.heap.size w wr
  sz : w.heap.size ≤ wr.heap.size
theorem Out.start (w : World) : Out w w none 0 0 [] := ⟨World.ownsRow_nil _ _ _ _, Below.refl _ _, Nat.le_refl _⟩
theorem Out.next {w wr w2 : World} {ao : Option Addr} {k cap : Nat} {res : List Int} (h : Out w wr ao k cap res) {x : Int} {T : TypeId} {ao' : Option Addr} {cap' : Nat}
    (hg : (wr.alloc (.cells #[.int .u32 x] T)).grownBy w2 (Value.slice ao k cap).ownBlock) (ho : w2.ownsRow w.heap.size 57 1 (.slice ao' (k + 1) cap') (k + 1) (res.map (.int .u32) ++ [.int .u32 x])) : Out w w2 ao' (k + 1) cap' (res ++ [x]) := by
  have hs := h.sz
  refine ⟨by simpa using ho, (h.bl.alloc hs _).grown hg (by simp; omega) (fun i hi => own_ge h.row i hi), ?_⟩
  have := hg.size; simp at this; omega
variable {w0 w : World} {l : List (Option Addr × Nat × Nat × Nat)}
/-- The trimmed row is the answer. -/
theorem Out.trim (H : Has w0 w l) {wr : World} {ao : Option Addr} {k cap : Nat} {res : List Int} (h : Out w wr ao k cap res) (hk : res.length = k) (hb : k ≤ 1099511627776) (hd : dgs res) (x : Nat) (hv : vl res = x) (K : Nat) (hK : (dg x).length ≤ K) :
    Calls Tryz.prog 74 #[.slice ao k cap] wr (Made w0 l x K) := by
  obtain ⟨A', c', e, hr, h1, h2⟩ := row_rd hk h.row
  cases e
  refine (rtrim_calls ao cap k res x wr hk h1 h2 hb hd hv hr).mono ?_
  rintro e w' ⟨A2, c2, rfl, hr2, h3, h4, hb2⟩
  exact ⟨A2, _, c2, x, rfl, Lib.hid rfl, hK, ((H.below h.bl).below hb2).cons hr2 rfl h3 h4⟩
set_option maxRecDepth 10000 in
set_option maxHeartbeats 2000000 in
theorem radd_h (H : Has w0 w l) (A1 : Option Addr) (k1 c1 x : Nat) (A2 : Option Addr) (k2 c2 y : Nat) (h1 : (A1, k1, c1, x) ∈ l) (h2 : (A2, k2, c2, y) ∈ l) (b1 : k1 ≤ 10000) (b2 : k2 ≤ 10000) :
    Calls Tryz.prog 43 #[.slice A1 k1 c1, .slice A2 k2 c2] w (Made w0 l (x + y) 10001) := by
  have e1 := Lib.hid (H.len h1)
  have e2 := Lib.hid (H.len h2)
  obtain ⟨i0, hi, hz0, hz1, hz2⟩ := info_u32
  obtain ⟨N, hN⟩ : ∃ N, max k1 k2 = N := ⟨_, rfl⟩
  have hN2 : max (k1 : Int) (k2 : Int) = (N : Int) := by omega
  have hN1 : k1 ≤ N := by omega
  have hN3 : k2 ≤ N := by omega
  have hNb : N ≤ 10000 := by omega
  have HLEN : Hid ((dg (x + y)).length ≤ 10001) := Lib.hid (by have := len_add x y; have := e1.out; have := e2.out; omega)
  have HH := Lib.hid H
  have M1 := Lib.hid h1
  have M2 := Lib.hid h2
  clear hN H h1 h2
  go_enter Tryz.func43, Tryz.ntmps43
  go_wp2_with fail
  go_loopw [5, 6, 7, 8] (fun vo vc vi vs wr => ∃ (i : Nat) (ao : Option Addr) (cap : Nat) (res : List Int) (cy : Int), i ≤ N + 1 ∧ vi = .int .i64 i ∧ vo = .slice ao i cap ∧ vc = .int .u64 cy ∧ 0 ≤ cy ∧ cy ≤ 1 ∧ Hid (AddInv (dg x) (dg y) i res cy) ∧ Hid (Out w wr ao i cap res)) (fun vo vc vi vs wr => N + 1 - (intOf vi).toNat)
  case atStart => exact ⟨0, none, 0, [], 0, by omega, rfl, rfl, rfl, by omega, by omega, Lib.hid (AddInv.start _ _), Lib.hid (Out.start w)⟩
  case round =>
    obtain ⟨i, ao, cap, res, cy, hiN, rfl, rfl, rfl, cy0, cy1, HA, HO⟩ := hrel
    by_cases hlt : i ≤ N
    · obtain ⟨xi, hxi⟩ : ∃ z, (dg x).getD i 0 = z := ⟨_, rfl⟩
      obtain ⟨yi, hyi⟩ : ∃ z, (dg y).getD i 0 = z := ⟨_, rfl⟩
      obtain ⟨x0, x1⟩ := dgs_getD (dgs_dg x) i
      obtain ⟨y0, y1⟩ := dgs_getD (dgs_dg y) i
      rw [hxi] at x0 x1
      rw [hyi] at y0 y1
      have hA := AddInv.step (dgs_dg x) (dgs_dg y) HA.out (xi + yi + cy) (by rw [hxi, hyi]; omega)
      have HAS := Lib.hid hA
      have C1 := rat_h (HH.out.below HO.out.bl) A1 k1 c1 x i M1.out (by omega) xi (Lib.hid hxi)
      have C2 := rat_h (HH.out.below HO.out.bl) A2 k2 c2 y i M2.out (by omega) yi (Lib.hid hyi)
      have hsz := HO.out.sz
      clear hA hxi hyi
      go_wp2_with fail
      refine C1.mono ?_
      rintro e w' ⟨rfl, rfl⟩
      go_wp2_with fail
      refine C2.mono ?_
      rintro e w' ⟨rfl, rfl⟩
      clear C1 C2
      go_wp2_with (at_builtin; refine wpList_append_own _ rfl _ _ 23 rfl w.heap.size 57 i0 (.int .u32 0) 1 4 Tryz.underlying23 hi hz0 hz1 hz2 rfl (by decide) _ _ _ rfl (HO.out.row.alloc _) ⟨wr.heap.size, 0, none⟩ 1 1 [.int .u32 ((xi + yi + cy) % 4294967296)] rfl rfl (cell_one_new _ _ _) (by simp [Value.oneCell']) (by unfold maxLen; omega) (by omega) (by simp; omega) ?_; intro v' w2 hown' hgrow _; have Hg' := Lib.hid (show (wr.alloc (.cells #[.int .u32 ((xi + yi + cy) % 4294967296)] 57)).grownBy w2 (Value.slice ao i cap).ownBlock from hgrow); clear hgrow; obtain ⟨g', cap', rfl⟩ := ownsRow_succ hown'; have HO2 := Lib.hid (HO.out.next Hg'.out hown'); clear hown' Hg')
      go_roundw
      case rel => exact ⟨i + 1, _, cap', _, _, by omega, by go_num, rfl, rfl, by omega, by omega, HAS, HO2⟩
      case measure => simp [intOf]; omega
    · obtain rfl : i = N + 1 := by omega
      have hv := HA.out.fin (by rw [e1.out]; omega) (by rw [e2.out]; omega)
      have HT := Lib.hid (HO.out.trim HH.out HA.out.len (by omega) HA.out.ok (x + y) hv 10001 HLEN.out)
      clear hv
      go_wp2_with fail
      refine HT.out.mono ?_
      rintro e w' ⟨A', k', c', n', rfl, hn, hk, h⟩
      have HF := Lib.hid h
      clear h
      go_wp2_with fail
      go_ret
      exact ⟨A', k', c', n', rfl, hn, hk, HF.out⟩
end Go.Proofs.YtfcfejlffmddnaaGreatDoor
end
section
/- Contracts of the reference: Mul. -/
namespace Go.Proofs.YtfcfejlffmddnaaGreatDoor
open Go.RowKit
set_option linter.unusedSimpArgs false
set_option linter.unusedVariables false
set_option linter.constructorNameAsVariable false

variable {w0 w : World} {l : List (Option Addr × Nat × Nat × Nat)}
set_option maxRecDepth 10000 in
set_option maxHeartbeats 1000000 in
theorem rmul_h (H : Has w0 w l) (A1 : Option Addr) (k1 c1 x : Nat) (A2 : Option Addr) (k2 c2 y : Nat) (h1' : (A1, k1, c1, x) ∈ l) (h2' : (A2, k2, c2, y) ∈ l) (hx : k1 ≤ 10000) (hy : k2 ≤ 10000) :
    Calls Tryz.prog 27 #[.slice A1 k1 c1, .slice A2 k2 c2] w (Made w0 l (x * y) (k1 + k2)) := by
  have hk1 := H.len h1'
  have hk2 := H.len h2'
  obtain ⟨h1, _, _, _⟩ := H.at h1'
  obtain ⟨h2, _, _, _⟩ := H.at h2'
  have HH := Lib.hid H
  have HLEN : Hid ((dg (x * y)).length ≤ k1 + k2) := Lib.hid (by have := len_mul x y; omega)
  clear h1' h2' H
  have m1 := run_make_row' (P := Tryz.prog) 23 57 (.int .u32 0) 4 Tryz.underlying23 info57 rfl .i64 .i64 (k1 + k2) (by omega) (by omega)
  rw [Int.natCast_add] at m1
  have HK1 := Lib.hid hk1
  have HK2 := Lib.hid hk2
  have H1 := Lib.hid h1
  have H2 := Lib.hid h2
  clear hk1 hk2 h1 h2
  go_enter Tryz.func27, Tryz.ntmps27
  go_wp2_with fail
  have HW : Hid (Wr (w.alloc (.cells (madeCells #[.int .u32 0] (k1 + k2)) 57)) w.heap.size 0 (List.replicate (k1 + k2) 0)) := Lib.hid (Wr.made _ _ _)
  have HB : Hid (Below w.heap.size w (w.alloc (.cells (madeCells #[.int .u32 0] (k1 + k2)) 57))) := Lib.hid ((Below.refl _ _).alloc (Nat.le_refl _) _)
  go_loopw [6, 7, 8, 9] (fun v19 v7 v8 v9 wr => ∃ (i : Nat) (out : List Int), i ≤ k1 ∧ v19 = .int .i64 i ∧ Hid (MulOut (dg x) (dg y) i out) ∧ Hid (Wr wr w.heap.size 0 out) ∧ Hid (Below w.heap.size w wr)) (fun v19 v7 v8 v9 wr => k1 - (intOf v19).toNat)
  case atStart => exact ⟨0, List.replicate (k1 + k2) 0, Nat.zero_le _, rfl, Lib.hid (by rw [← HK1.out, ← HK2.out]; exact MulOut.start _ _), HW, HB⟩
  case round =>
    obtain ⟨i, out0, hi, rfl, HA, HW2, HB2⟩ := hrel
    by_cases hlt : i < k1
    · obtain ⟨xi, hxi⟩ : ∃ z, (dg x)[i]? = some z := ⟨_, List.getElem?_eq_getElem (by rw [HK1.out]; exact hlt)⟩
      obtain ⟨x0, x1⟩ := dgs_at (dgs_dg x) hxi
      obtain ⟨b1, o1, rfl, r1⟩ := (H1.out.below HB2.out) (by intro h; rw [h] at hxi; simp at hxi)
      have hcx := r1 i xi hxi
      have HX := Lib.hid hxi
      clear r1 hxi
      go_wp2_with fail
      go_loopw [7, 8, 9] (fun v8 v26 v9 wr => ∃ (k : Nat) (out : List Int) (cy : Int), k ≤ k2 ∧ v26 = .int .i64 k ∧ v8 = .int .u64 cy ∧ 0 ≤ cy ∧ cy < 4294967296 ∧ Hid (MulInv (dg y) out0 xi i k out cy) ∧ Hid (Wr wr w.heap.size 0 out) ∧ Hid (Below w.heap.size w wr)) (fun v8 v26 v9 wr => k2 - (intOf v26).toNat)
      case atStart => exact ⟨0, out0, 0, Nat.zero_le _, rfl, rfl, by omega, by omega, Lib.hid (MulInv.start HA.out.ok), HW2, HB2⟩
      case round =>
        obtain ⟨k, out, cy, hk, rfl, rfl, cy0, cy1, HI, HW3, HB3⟩ := hrel
        by_cases hlk : k < k2
        · obtain ⟨yk, hyk⟩ : ∃ z, (dg y)[k]? = some z := ⟨_, List.getElem?_eq_getElem (by rw [HK2.out]; exact hlk)⟩
          obtain ⟨y0, y1⟩ := dgs_at (dgs_dg y) hyk
          obtain ⟨b2, o2, rfl, r2⟩ := (H2.out.below HB3.out) (by intro h; rw [h] at hyk; simp at hyk)
          have hcy := r2 k yk hyk
          obtain ⟨b1', o1', hb', r1'⟩ := (H1.out.below HB3.out) (by intro h; have := HX.out; rw [h] at this; simp at this)
          cases hb'
          have hcx' := r1' i xi HX.out
          clear r1'
          have hlen : i + k < out.length := by rw [HI.out.len, HA.out.len, HK1.out, HK2.out]; omega
          obtain ⟨zk, hzk⟩ : ∃ z, out[i + k]? = some z := ⟨_, List.getElem?_eq_getElem hlen⟩
          obtain ⟨z0, z1⟩ := dgs_at HI.out.ok hzk
          have hcell := HW3.out (i + k) zk hzk
          rw [Nat.zero_add] at hcell
          obtain ⟨hc1, hc2⟩ := hcell
          obtain ⟨m0, m1⟩ := mul_lt_BB x0 x1 y0 y1
          have hI := MulInv.step (dgs_dg y) x0 x1 HI.out yk zk hyk hzk (xi * yk + zk + cy) (Int.add_comm _ _)
          obtain ⟨pr, hpr⟩ : ∃ p, xi * yk = p := ⟨_, rfl⟩
          rw [hpr] at m0 m1 hI
          have hw : ∀ q, Wr ((wr.drewN q).setCell ⟨w.heap.size, i + k, none⟩ (.int .u32 ((pr + zk + cy) % 4294967296))) w.heap.size 0 (out.set (i + k) ((pr + zk + cy) % 4294967296)) := fun q => by
            have := (HW3.out.drewN q).set (i + k) ((pr + zk + cy) % 4294967296)
            rwa [Nat.zero_add] at this
          have HIS := Lib.hid hI
          have HWS := Lib.hid hw
          have HBS := Lib.hid (fun q => (below_drewN HB3.out q).setCell (p := ⟨w.heap.size, i + k, none⟩) (Nat.le_refl _) (.int .u32 ((pr + zk + cy) % 4294967296)))
          clear hyk hzk r2 hI hw hlen
          go_wp2
          go_quiet (fail)
          go_wp2
          go_roundw
          case rel => exact ⟨k + 1, _, _, by omega, by go_num, rfl, by omega, by omega, HIS, Lib.hid (HWS.out _), Lib.hid (HBS.out _)⟩
          case measure => simp [intOf]; omega
        · obtain rfl : k = k2 := by omega
          have hI := HI.out
          rw [← HK2.out] at hI
          have hO := MulOut.step HX.out HA.out hI
          rw [HK2.out] at hO
          have hlen : i + k < out.length := by rw [HI.out.len, HA.out.len, HK1.out, HK2.out]; omega
          obtain ⟨zk, hzk⟩ : ∃ z, out[i + k]? = some z := ⟨_, List.getElem?_eq_getElem hlen⟩
          have hcell := HW3.out (i + k) zk hzk
          rw [Nat.zero_add] at hcell
          obtain ⟨hc1, hc2⟩ := hcell
          have hcm : cy % 4294967296 = cy := Int.emod_eq_of_lt cy0 cy1
          have hw := HW3.out.set (i + k) cy
          rw [Nat.zero_add] at hw
          have HOS := Lib.hid hO
          have HWS := Lib.hid hw
          have HBS := Lib.hid (HB3.out.setCell (p := ⟨w.heap.size, i + k, none⟩) (Nat.le_refl _) (.int .u32 cy))
          clear hzk hI hO hw hlen
          go_wp2_with fail
          go_roundw
          case rel => exact ⟨i + 1, _, by omega, by go_num, HOS, HWS, HBS⟩
          case measure => simp [intOf]; omega
    · obtain rfl : i = k1 := by omega
      have hO := HA.out
      rw [← HK1.out] at hO
      have hv := MulOut.fin hO
      have hlen : out0.length = i + k2 := by rw [HA.out.len, HK1.out, HK2.out]
      have HL := Lib.hid hlen
      have HV := Lib.hid hv
      clear hO hv hlen
      go_wp2_with fail
      refine (rtrim_calls _ (i + k2) (i + k2) out0 (x * y) _ HL.out (Nat.le_refl _) (by omega) (by omega) HA.out.ok HV.out HW2.out.rd).mono ?_
      rintro e w' ⟨A', c', rfl, hr, h3, h4, hb⟩
      go_wp2_with fail
      go_ret
      exact ⟨A', _, c', x * y, rfl, Lib.hid rfl, HLEN.out, ((HH.out.below HB2.out).below hb).cons hr rfl h3 h4⟩
end Go.Proofs.YtfcfejlffmddnaaGreatDoor
end
section
/- The laws on numbers: entry, bounds. -/
namespace Go.Proofs.YtfcfejlffmddnaaGreatDoor
open Go.RowKit
set_option linter.unusedSimpArgs false
set_option linter.unusedVariables false
set_option linter.constructorNameAsVariable false

variable {w0 w : World} {l : List (Option Addr × Nat × Nat × Nat)}
theorem Lists.three (w : World) (A1 : Option Addr) (k1 c1 : Nat) (g1 : List Int) (A2 : Option Addr) (k2 c2 : Nat) (g2 : List Int) (A3 : Option Addr) (k3 c3 : Nat) (g3 : List Int) (i1 : Inp w A1 k1 c1 g1) (i2 : Inp w A2 k2 c2 g2) (i3 : Inp w A3 k3 c3 g3) :
    Lists (w.alloc (.cells #[.slice A1 k1 c1, .slice A2 k2 c2, .slice A3 k3 c3] 23)) w.heap.size 3 [(A1, k1, c1, g1), (A2, k2, c2, g2), (A3, k3, c3, g3)] := by
  refine ⟨rfl, fun j p hp => ?_, fun p hp => ?_⟩
  · rw [Lib.cell_of_heap (World.alloc_heap_new w _)]
    match j, hp with
    | 0, hp => simp at hp; subst hp; rfl
    | 1, hp => simp at hp; subst hp; rfl
    | 2, hp => simp at hp; subst hp; rfl
  · simp only [List.mem_cons, List.not_mem_nil, or_false] at hp
    rcases hp with rfl | rfl | rfl
    · exact ⟨i1.len, i1.lim, i1.rd.alloc _⟩
    · exact ⟨i2.len, i2.lim, i2.rd.alloc _⟩
    · exact ⟨i3.len, i3.lim, i3.rd.alloc _⟩
/-- A list that is a number of at most m elements. -/
def okB (m k : Nat) (g : List Int) : Bool := decide (k ≤ m) && validB g
theorem okB_num {m : Nat} {A : Option Addr} {k c : Nat} {g : List Int} (hi : Inp w A k c g) (h : okB m k g = true) : ∃ x, g = dg x ∧ k ≤ m ∧ k ≤ 1024 ∧ (dg x).length ≤ m := by
  unfold okB at h
  rw [Bool.and_eq_true] at h
  obtain ⟨x, rfl, hx⟩ := validB_num hi.ok h.2
  have h1 := of_decide_eq_true h.1
  have h2 := hi.len
  exact ⟨x, rfl, h1, by omega, by omega⟩
theorem numbers1 (m : Nat) (A1 : Option Addr) (k1 c1 : Nat) (g1 : List Int) (i1 : Inp w A1 k1 c1 g1) (b : Bool) (hb : Hid (okB m k1 g1 = b)) :
    Calls Tryz.prog 39 #[.int .i64 m, .slice (some ⟨w.heap.size, 0, none⟩) 1 1] (w.alloc (.cells #[.slice A1 k1 c1] 23)) fun e w' => e = .returned (.bool b) ∧ Hid (Has w w' []) :=
  (numbers_calls m _ 1 1 _ _ (Lists.one w A1 k1 c1 g1 i1.rd i1.len i1.lim) (by decide) b (Lib.hid (by rw [← hb.out]; simp [okB]))).mono (fun e w' ⟨he, hw⟩ => ⟨he, Lib.hid (hw ▸ (Has.nil w).alloc _)⟩)
theorem numbers2 (m : Nat) (A1 : Option Addr) (k1 c1 : Nat) (g1 : List Int) (A2 : Option Addr) (k2 c2 : Nat) (g2 : List Int) (i1 : Inp w A1 k1 c1 g1) (i2 : Inp w A2 k2 c2 g2) (b : Bool) (hb : Hid ((okB m k1 g1 && okB m k2 g2) = b)) :
    Calls Tryz.prog 39 #[.int .i64 m, .slice (some ⟨w.heap.size, 0, none⟩) 2 2] (w.alloc (.cells #[.slice A1 k1 c1, .slice A2 k2 c2] 23)) fun e w' => e = .returned (.bool b) ∧ Hid (Has w w' []) :=
  (numbers_calls m _ 2 2 _ _ (Lists.two w A1 k1 c1 g1 A2 k2 c2 g2 i1.rd i2.rd i1.len i2.len i1.lim i2.lim) (by decide) b (Lib.hid (by rw [← hb.out]; simp [okB]))).mono (fun e w' ⟨he, hw⟩ => ⟨he, Lib.hid (hw ▸ (Has.nil w).alloc _)⟩)
theorem numbers3 (m : Nat) (A1 : Option Addr) (k1 c1 : Nat) (g1 : List Int) (A2 : Option Addr) (k2 c2 : Nat) (g2 : List Int) (A3 : Option Addr) (k3 c3 : Nat) (g3 : List Int) (i1 : Inp w A1 k1 c1 g1) (i2 : Inp w A2 k2 c2 g2) (i3 : Inp w A3 k3 c3 g3) (b : Bool) (hb : Hid ((okB m k1 g1 && okB m k2 g2 && okB m k3 g3) = b)) :
    Calls Tryz.prog 39 #[.int .i64 m, .slice (some ⟨w.heap.size, 0, none⟩) 3 3] (w.alloc (.cells #[.slice A1 k1 c1, .slice A2 k2 c2, .slice A3 k3 c3] 23)) fun e w' => e = .returned (.bool b) ∧ Hid (Has w w' []) :=
  (numbers_calls m _ 3 3 _ _ (Lists.three w A1 k1 c1 g1 A2 k2 c2 g2 A3 k3 c3 g3 i1 i2 i3) (by decide) b (Lib.hid (by rw [← hb.out]; simp [okB, Bool.and_assoc]))).mono (fun e w' ⟨he, hw⟩ => ⟨he, Lib.hid (hw ▸ (Has.nil w).alloc _)⟩)
theorem Inp.has {A : Option Addr} {k c x : Nat} (h : Inp w A k c (dg x)) (H : Has w0 w l) : Has w0 w ((A, k, c, x) :: l) := H.cons h.rd h.len h.cap h.capm
theorem lenadd {x y i j : Nat} (hx : (dg x).length ≤ i) (hy : (dg y).length ≤ j) : (dg (x + y)).length ≤ i + j + 1 := by
  refine len_of_lt ?_
  have h1 := lt_of_len hx
  have h2 := lt_of_len hy
  have h3 : 4294967296 ^ i ≤ 4294967296 ^ (i + j) := Nat.pow_le_pow_right (by decide) (by omega)
  have h4 : 4294967296 ^ j ≤ 4294967296 ^ (i + j) := Nat.pow_le_pow_right (by decide) (by omega)
  rw [Nat.pow_succ]
  omega
theorem lenmul {x y i j : Nat} (hx : (dg x).length ≤ i) (hy : (dg y).length ≤ j) : (dg (x * y)).length ≤ i + j := by
  refine len_of_lt ?_
  rw [Nat.pow_add]
  exact Nat.mul_lt_mul'' (lt_of_len hx) (lt_of_len hy)
theorem lenle {x y i : Nat} (h : x ≤ y) (hy : (dg y).length ≤ i) : (dg x).length ≤ i := len_of_lt (Nat.lt_of_le_of_lt h (lt_of_len hy))
theorem subO_add {a b : Nat} (h : (dg a).length ≤ 1024) : subO (a + b) b = (0, a) := by
  unfold subO
  rw [if_neg (by omega), Nat.add_sub_cancel, giv_ok h]
theorem giv_le {n i : Nat} (h : (dg n).length ≤ i) (hi : i ≤ 1024) : giv n = (0, n) := giv_ok (Nat.le_trans h hi)
theorem len_zero : (dg 0).length ≤ 0 := by rw [dg_zero]; exact Nat.le_refl _
theorem len_lit {n : Nat} (h : n < 4294967296 ^ 1) : (dg n).length ≤ 1 := len_of_lt h
end Go.Proofs.YtfcfejlffmddnaaGreatDoor
end
section
/- Contracts of the reference: Pow. -/
namespace Go.Proofs.YtfcfejlffmddnaaGreatDoor
open Go.RowKit
set_option linter.unusedSimpArgs false
set_option linter.unusedVariables false
set_option linter.constructorNameAsVariable false

variable {w0 w : World} {l : List (Option Addr × Nat × Nat × Nat)}
/-- What the reference's Pow answers. -/
def RPow (w0 : World) (l : List (Option Addr × Nat × Nat × Nat)) (a n : Nat) (e : Ending) (w' : World) : Prop :=
  (Hid (giv (a ^ n) = (2, 0)) ∧ e = .returned (.tuple #[.slice none 0 0, .bool false]) ∧ Hid (Has w0 w' l)) ∨
    ∃ A k c, e = .returned (.tuple #[.slice A k c, .bool true]) ∧ k ≤ 1024 ∧ Hid (Has w0 w' ((A, k, c, a ^ n) :: l))
theorem pow_over {a n i : Nat} (ha : 2 ≤ a) (hi : i + 1 ≤ n) (h : ¬ (dg (a ^ (i + 1))).length ≤ 1024) : giv (a ^ n) = (2, 0) :=
  giv_no (fun h2 => h (lenle (Nat.pow_le_pow_right (by omega) hi) h2))
set_option maxRecDepth 10000 in
set_option maxHeartbeats 2000000 in
theorem rpow_h (H : Has w0 w l) (A1 : Option Addr) (k1 c1 a : Nat) (n : Nat) (h1 : (A1, k1, c1, a) ∈ l) (b1 : k1 ≤ 1024) (hn : n ≤ 9223372036854775807) :
    Calls Tryz.prog 25 #[.slice A1 k1 c1, .int .i64 n] w (RPow w0 l a n) := by
  have e1 := Lib.hid (H.len h1)
  have HH := Lib.hid H
  have M1 := Lib.hid h1
  clear H h1
  by_cases hn0 : n = 0
  · subst hn0
    go_enter Tryz.func25, Tryz.ntmps25
    go_wp2_with fail
    go_ret2
    exact Or.inr ⟨_, 1, 1, rfl, by decide, Lib.hid (HH.out.one 1 (by decide) (by decide))⟩
  have hz : ((n : Int) == 0) = false := by simp; omega
  have HO := Lib.hid (HH.out.one 1 (by decide) (by decide))
  by_cases ha1 : a = 1
  · have HA := Lib.hid ha1
    have HS := rsame_h HO.out A1 k1 c1 a _ 1 1 1 (.tail _ M1.out) (.head _) (Nat.le_trans b1 (by decide)) (by decide) true (Lib.hid (decide_eq_true ha1))
    clear ha1
    go_enter Tryz.func25, Tryz.ntmps25
    go_wp2_with fail
    refine HS.mono ?_
    rintro e w1 ⟨rfl, h⟩
    have H1 := Lib.hid h
    clear h
    go_wp2_with fail
    go_ret2
    refine Or.inr ⟨_, 1, 1, rfl, by decide, Lib.hid ?_⟩
    rw [HA.out, Nat.one_pow]
    exact ((H1.out.keep (fun p hp => .tail _ hp)).one 1 (by decide) (by decide))
  have HS := rsame_h HO.out A1 k1 c1 a _ 1 1 1 (.tail _ M1.out) (.head _) (Nat.le_trans b1 (by decide)) (by decide) false (Lib.hid (decide_eq_false ha1))
  by_cases hk : k1 = 0
  · have HA : Hid (a = 0) := Lib.hid ((dg_nil_iff a).1 (by rw [e1.out, hk]))
    subst hk
    clear ha1
    go_enter Tryz.func25, Tryz.ntmps25
    go_wp2_with fail
    refine HS.mono ?_
    rintro e w1 ⟨rfl, h⟩
    have H1 := Lib.hid h
    clear h
    go_wp2_with fail
    go_ret2
    refine Or.inr ⟨A1, 0, c1, rfl, by decide, Lib.hid ?_⟩
    rw [HA.out, Nat.zero_pow (by omega)]
    have hk := H1.out.keep (l' := l) (fun p hp => .tail _ hp)
    have hm := M1.out
    rw [HA.out] at hm
    obtain ⟨r, x1, x2, x3⟩ := hk.at hm
    exact hk.cons r x1 x2 x3
  · have hk0 : ((k1 : Int) == 0) = false := by simp; omega
    have ha2 : Hid (2 ≤ a) := Lib.hid (by
      have : a ≠ 0 := fun h => by
        have := e1.out
        rw [h, dg_zero] at this
        exact hk this.symm
      omega)
    clear ha1 hk
    go_enter Tryz.func25, Tryz.ntmps25
    go_wp2_with fail
    refine HS.mono ?_
    rintro e w1 ⟨rfl, h⟩
    have H1 := Lib.hid (h.keep (l' := l) (fun p hp => .tail _ hp))
    clear h HS HO
    have H2 := Lib.hid (H1.out.one 1 (by decide) (by decide))
    go_wp2_with fail
    go_loopw [6, 7] (fun vo vi wr => ∃ (i : Nat) (A : Option Addr) (k c : Nat), i ≤ n ∧ vi = .int .i64 i ∧ vo = .slice A k c ∧ k ≤ 1024 ∧ Hid (Has w0 wr ((A, k, c, a ^ i) :: l))) (fun vo vi wr => n - (intOf vi).toNat)
    case atStart => exact ⟨0, _, 1, 1, Nat.zero_le _, rfl, rfl, by decide, by rw [Nat.pow_zero]; exact H2⟩
    case round =>
      obtain ⟨i, A, k, c, hi, rfl, rfl, hkb, HI⟩ := hrel
      by_cases hlt : i < n
      · go_wp2_with fail
        refine (rmul_h HI.out A k c (a ^ i) A1 k1 c1 a (.head _) (.tail _ M1.out) (by omega) (by omega)).mono ?_
        rintro e w2 ⟨A', k', c', n', rfl, hn', hk', h⟩
        rw [hn'.out] at h
        have hlen := h.len (.head _)
        have HX := Lib.hid (show Has w0 w2 ((A', k', c', a ^ (i + 1)) :: l) by
          rw [Nat.pow_succ]
          exact h.keep (fun p hp => by
            rcases List.mem_cons.1 hp with rfl | hp
            · exact .head _
            · exact .tail _ (.tail _ hp)))
        clear h hn'
        by_cases hf : k' ≤ 1024
        · clear hlen
          go_wp2_with fail
          refine (fits_calls A' k' c' _ true (Lib.hid (decide_eq_true hf))).mono ?_
          rintro e w' ⟨rfl, rfl⟩
          go_wp2_with fail
          go_roundw
          case rel => exact ⟨i + 1, A', k', c', by omega, by go_num, rfl, hf, HX⟩
          case measure => simp [intOf]; omega
        · have HG := Lib.hid (pow_over (n := n) ha2.out (by omega : i + 1 ≤ n) (by rw [HX.out.len (.head _)]; exact hf))
          clear hlen
          go_wp2_with fail
          refine (fits_calls A' k' c' _ false (Lib.hid (decide_eq_false hf))).mono ?_
          rintro e w' ⟨rfl, rfl⟩
          go_wp2_with fail
          go_ret2
          exact Or.inl ⟨HG, rfl, Lib.hid (HX.out.keep (fun p hp => .tail _ hp))⟩
      · obtain rfl : n = i := by omega
        go_wp2_with fail
        go_ret2
        exact Or.inr ⟨A, k, c, rfl, hkb, HI⟩
end Go.Proofs.YtfcfejlffmddnaaGreatDoor
end
section
/- Contracts of the reference: above. -/
namespace Go.Proofs.YtfcfejlffmddnaaGreatDoor
open Go.RowKit
set_option linter.unusedSimpArgs false
set_option linter.unusedVariables false
set_option linter.constructorNameAsVariable false

variable {w0 w : World} {l : List (Option Addr × Nat × Nat × Nat)}
theorem cmpI_gt (a b : Nat) : (b < a ∧ cmpI a b = 1) ∨ (a ≤ b ∧ ∃ r : Int, cmpI a b = r ∧ ¬ 0 < r) := by
  unfold cmpI
  by_cases h : b < a
  · left; refine ⟨h, ?_⟩; rw [if_neg (by omega), if_pos h]
  · right; refine ⟨by omega, _, rfl, ?_⟩; split <;> first | decide | (rw [if_neg h]; decide)
set_option maxRecDepth 10000 in
set_option maxHeartbeats 2000000 in
theorem rabove_h (H : Has w0 w l) (A1 : Option Addr) (k1 c1 x : Nat) (n : Nat) (A2 : Option Addr) (k2 c2 a : Nat) (h1 : (A1, k1, c1, x) ∈ l) (h2 : (A2, k2, c2, a) ∈ l) (b1 : k1 ≤ 1024) (b2 : k2 ≤ 1024) (hn : n ≤ 9223372036854775807) (hx : Hid (1 ≤ x)) (ha : Hid (1 ≤ a)) (b : Bool) (hb : Hid (decide (a < x ^ n) = b)) :
    Calls Tryz.prog 84 #[.slice A1 k1 c1, .int .i64 n, .slice A2 k2 c2] w fun e w' => e = .returned (.bool b) ∧ Hid (Has w0 w' l) := by
  have HH := Lib.hid H
  have M1 := Lib.hid h1
  have M2 := Lib.hid h2
  have e2 := Lib.hid (H.len h2)
  have H2 := Lib.hid (HH.out.one 1 (by decide) (by decide))
  clear H h1 h2
  go_enter Tryz.func84, Tryz.ntmps84
  go_wp2_with fail
  go_loopw [7, 8] (fun vo vi wr => ∃ (i : Nat) (A : Option Addr) (k c : Nat), i ≤ n ∧ vi = .int .i64 i ∧ vo = .slice A k c ∧ k ≤ 1024 ∧ Hid (x ^ i ≤ a) ∧ Hid (Has w0 wr ((A, k, c, x ^ i) :: l))) (fun vo vi wr => n - (intOf vi).toNat)
  case atStart => exact ⟨0, _, 1, 1, Nat.zero_le _, rfl, rfl, by decide, by rw [Nat.pow_zero]; exact ha, by rw [Nat.pow_zero]; exact H2⟩
  case round =>
    obtain ⟨i, A, k, c, hi, rfl, rfl, hkb, HL, HI⟩ := hrel
    by_cases hlt : i < n
    · go_wp2_with fail
      refine (rmul_h HI.out A k c (x ^ i) A1 k1 c1 x (.head _) (.tail _ M1.out) (by omega) (by omega)).mono ?_
      rintro e w2 ⟨A', k', c', n', rfl, hn', hk', h⟩
      rw [hn'.out] at h
      have HX := Lib.hid (show Has w0 w2 ((A', k', c', x ^ (i + 1)) :: l) by
        rw [Nat.pow_succ]
        exact h.keep (fun p hp => by
          rcases List.mem_cons.1 hp with rfl | hp
          · exact .head _
          · exact .tail _ (.tail _ hp)))
      clear h hn'
      rcases cmpI_gt (x ^ (i + 1)) a with ⟨hg, hc⟩ | ⟨hg, r, hc, hr⟩
      · obtain rfl : b = true := by
          rw [← hb.out]
          exact decide_eq_true (Nat.lt_of_lt_of_le hg (Nat.pow_le_pow_right hx.out hlt))
        have HC := Lib.hid hc
        clear hc hg
        go_wp2_with fail
        refine (rcmp_h HX.out A' k' c' (x ^ (i + 1)) A2 k2 c2 a (.head _) (.tail _ M2.out) (by omega) (by omega) 1 HC).mono ?_
        rintro e w' ⟨rfl, rfl⟩
        go_wp2_with fail
        go_ret
        exact ⟨rfl, Lib.hid (HX.out.keep (fun p hp => .tail _ hp))⟩
      · have hk2 : k' ≤ 1024 := by
          have := HX.out.len (.head _)
          have h3 := lenle hg (Nat.le_of_eq e2.out)
          omega
        have HC := Lib.hid hc
        have HG := Lib.hid hg
        clear hc hg
        go_wp2_with fail
        refine (rcmp_h HX.out A' k' c' (x ^ (i + 1)) A2 k2 c2 a (.head _) (.tail _ M2.out) (by omega) (by omega) r HC).mono ?_
        rintro e w' ⟨rfl, rfl⟩
        go_wp2_with fail
        go_roundw
        case rel => exact ⟨i + 1, A', k', c', by omega, by go_num, rfl, hk2, HG, HX⟩
        case measure => simp [intOf]; omega
    · obtain rfl : n = i := by omega
      obtain rfl : b = false := by rw [← hb.out]; exact decide_eq_false (by have := HL.out; omega)
      go_wp2_with fail
      go_ret
      exact ⟨rfl, Lib.hid (HI.out.keep (fun p hp => .tail _ hp))⟩
end Go.Proofs.YtfcfejlffmddnaaGreatDoor
end
section
/- A result cell of two slices. -/
namespace Go.Proofs.YtfcfejlffmddnaaGreatDoor
open Go.RowKit
set_option linter.unusedSimpArgs false
set_option linter.unusedVariables false
set_option linter.constructorNameAsVariable false

variable {w0 w : World} {l : List (Option Addr × Nat × Nat × Nat)}
/-- A cell of two slices. -/
def DCell (w : World) (b : Nat) (v1 v2 : Value) : Prop := (∃ T, w.heap[b]? = some (.cells #[v1, v2] T (0, 0))) ∧ (∀ n, v1 ≠ .int .u32 n) ∧ (∀ n, v2 ≠ .int .u32 n)
theorem DCell.below {w w' : World} {B b : Nat} {v1 v2 : Value} (h : DCell w b v1 v2) (hlt : b < B) (hb : Below B w w') : DCell w' b v1 v2 := by
  obtain ⟨⟨T, h1⟩, h2, h3⟩ := h
  exact ⟨⟨T, (hb.block b hlt).trans h1⟩, h2, h3⟩
theorem DCell.new (w : World) (T : TypeId) : DCell (w.alloc (.cells #[.slice none 0 0, .slice none 0 0] T)) w.heap.size (.slice none 0 0) (.slice none 0 0) :=
  ⟨⟨T, World.alloc_heap_new w _⟩, (fun n => by simp), (fun n => by simp)⟩
theorem Rd.setRow {w : World} {A : Option Addr} {g : List Int} {b : Nat} {v1 v2 : Value} (h : Rd .u32 w A g) (hD : DCell w b v1 v2) (cs : Array Value) : Rd .u32 (w.setRow b cs) A g := fun hn => by
  obtain ⟨b1, o, e, hc⟩ := h hn
  obtain ⟨⟨T, h1⟩, h2, h3⟩ := hD
  refine ⟨b1, o, e, fun j y hy => ?_⟩
  have hcj := hc j y hy
  rw [cell_setRow_other]
  · exact hcj
  · intro hq
    have hq' : b1 = b := hq
    subst hq'
    rw [Lib.cell_of_heap h1] at hcj
    obtain ⟨i, hi⟩ : ∃ i, o + j = i := ⟨_, rfl⟩
    rw [hi] at hcj
    match i, hcj with
    | 0, hcj => exact h2 y (by simpa using hcj)
    | 1, hcj => exact h3 y (by simpa using hcj)
    | i + 2, hcj => simp at hcj
/-- The struct is laid into the result cell: what was alive stays alive. -/
theorem has_cell (H : Has w0 w l) {w1 W : World} (T : TypeId) (hw : w.alloc (.cells #[.slice none 0 0, .slice none 0 0] T) = w1) {l' : List (Option Addr × Nat × Nat × Nat)} (HW : Has w1 W l') (cs : Array Value) : Has w0 (W.setRow w.heap.size cs) l' := by
  have hs : w1.heap.size = w.heap.size + 1 := by rw [← hw]; simp
  have hD : DCell W w.heap.size (.slice none 0 0) (.slice none 0 0) := DCell.below (by rw [← hw]; exact DCell.new w T) (by omega) HW.b
  have hb : Below w0.heap.size w0 W := H.b.trans (((show Below w.heap.size w w1 by rw [← hw]; exact (Below.refl _ w).alloc (Nat.le_refl _) _).trans (HW.b.mono (by omega))).mono H.b.size)
  exact ⟨below_setRow hb H.b.size cs, fun p hp => ⟨(HW.r p hp).1.setRow hD cs, (HW.r p hp).2⟩⟩
theorem DCell.row {w W w1 : World} (T : TypeId) (hw : w.alloc (.cells #[.slice none 0 0, .slice none 0 0] T) = w1) {l' : List (Option Addr × Nat × Nat × Nat)} (HW : Has w1 W l') : W.heap[w.heap.size]? = some (.cells #[.slice none 0 0, .slice none 0 0] T (0, 0)) := by
  have hs : w1.heap.size = w.heap.size + 1 := by rw [← hw]; simp
  rw [HW.b.block _ (by omega), ← hw]
  exact World.alloc_heap_new w _
end Go.Proofs.YtfcfejlffmddnaaGreatDoor
end
section
/- Contracts of the reference: Shr. -/
namespace Go.Proofs.YtfcfejlffmddnaaGreatDoor
open Go.RowKit
set_option linter.unusedSimpArgs false
set_option linter.unusedVariables false
set_option linter.constructorNameAsVariable false

/-- The first digits of a number. -/
structure Digs (m j : Nat) (res : List Int) : Prop where
  len : res.length = j
  dig : ∀ t y, res[t]? = some y → y = ((m / 4294967296 ^ t % 4294967296 : Nat) : Int)
theorem Digs.start (m : Nat) : Digs m 0 [] := ⟨rfl, fun t y h => by simp at h⟩
theorem Digs.next {m j : Nat} {res : List Int} (h : Digs m j res) : Digs m (j + 1) (res ++ [((m / 4294967296 ^ j % 4294967296 : Nat) : Int)]) := by
  refine ⟨by simp [h.len], fun t y hy => ?_⟩
  rw [List.getElem?_append] at hy
  split at hy
  · exact h.dig t y hy
  · rw [List.getElem?_singleton] at hy
    split at hy
    · have : t = j := by have := h.len; omega
      subst this
      injection hy with hy; exact hy.symm
    · cases hy
theorem Digs.ok {m j : Nat} {res : List Int} (h : Digs m j res) : dgs res := fun y hy => by
  obtain ⟨t, ht⟩ := List.mem_iff_getElem?.1 hy
  rw [h.dig t y ht]
  have : m / 4294967296 ^ t % 4294967296 < 4294967296 := Nat.mod_lt _ (by decide)
  omega
theorem Digs.fin {m j : Nat} {res : List Int} (h : Digs m j res) (hm : m < 4294967296 ^ j) : vl res = m := by
  rw [vl_of_digits res m h.dig, h.len, Nat.mod_eq_of_lt hm]
/-- The digit that Shr lays. -/
theorem rshr_digit (a q r j : Nat) (hr : r < 32) :
    ((a / 4294967296 ^ (q + j + 1) % 4294967296 * 4294967296 + a / 4294967296 ^ (q + j) % 4294967296) / 2 ^ r) % 4294967296 = a / 2 ^ (32 * q + r) / 4294967296 ^ j % 4294967296 := by
  obtain ⟨y, hy⟩ : ∃ y, a / 4294967296 ^ (q + j) = y := ⟨_, rfl⟩
  have h1 : a / 4294967296 ^ (q + j + 1) = y / 4294967296 := by rw [Nat.pow_succ, ← Nat.div_div_eq_div_mul, hy]
  have h2 : a / 2 ^ (32 * q + r) / 4294967296 ^ j = y / 2 ^ r := by
    rw [← hy, Nat.div_div_eq_div_mul, Nat.div_div_eq_div_mul]
    congr 1
    rw [Nat.pow_add 2, Nat.pow_add 4294967296, ← pow32 q]
    rw [Nat.mul_assoc, Nat.mul_assoc, Nat.mul_comm (2 ^ r)]
  rw [h1, h2, hy]
  obtain ⟨s, hs⟩ : ∃ s, 32 = r + s := ⟨32 - r, by omega⟩
  have h3 : (4294967296 : Nat) = 2 ^ r * 2 ^ s := by rw [← Nat.pow_add, ← hs]
  have h4 : y / 4294967296 % 4294967296 * 4294967296 + y % 4294967296 = y % (4294967296 * 4294967296) := by omega
  rw [h4]
  have h5 : y % (4294967296 * 4294967296) = y % (2 ^ r * (2 ^ s * 4294967296)) := by rw [← Nat.mul_assoc, ← h3]
  rw [h5, Nat.mod_mul_right_div_self, Nat.mul_comm (2 ^ s), Nat.mod_mul_right_mod]
variable {w0 w : World} {l : List (Option Addr × Nat × Nat × Nat)}
set_option maxRecDepth 10000 in
set_option maxHeartbeats 2000000 in
theorem rshr_h (H : Has w0 w l) (A1 : Option Addr) (k1 c1 x : Nat) (n : Nat) (h1 : (A1, k1, c1, x) ∈ l) (b1 : k1 ≤ 10000) (hn : n ≤ 9223372036854775807) :
    Calls Tryz.prog 52 #[.slice A1 k1 c1, .int .i64 n] w (Made w0 l (x / 2 ^ n) k1) := by
  have e1 := Lib.hid (H.len h1)
  obtain ⟨i0, hi, hz0, hz1, hz2⟩ := info_u32
  obtain ⟨q, hq⟩ : ∃ q, n / 32 = q := ⟨_, rfl⟩
  obtain ⟨r, hr⟩ : ∃ r, n % 32 = r := ⟨_, rfl⟩
  have hnq : n = 32 * q + r := by omega
  have hr32 : r < 32 := by omega
  have x1 : (n : Int).tdiv 32 = (q : Int) := by rw [Int.tdiv_eq_ediv_of_nonneg (by omega)]; omega
  have x2 : (n : Int).tmod 32 = (r : Int) := by rw [Int.tmod_eq_emod_of_nonneg (by omega)]; omega
  have x3 : wrap64 (q : Int) = (q : Int) := by unfold wrap64; omega
  have HLEN : Hid ((dg (x / 2 ^ n)).length ≤ k1) := Lib.hid (lenle (Nat.div_le_self _ _) (Nat.le_of_eq e1.out))
  have HH := Lib.hid H
  have M1 := Lib.hid h1
  have HQ := Lib.hid hnq
  clear H h1 hq hr hnq
  by_cases hqk : k1 ≤ q
  · have HZ : Hid (x / 2 ^ n = 0) := Lib.hid (by
      rw [HQ.out, Nat.pow_add, ← Nat.div_div_eq_div_mul, ← pow32]
      have h1 := lt_of_len (Nat.le_of_eq e1.out)
      have h2 : 4294967296 ^ k1 ≤ 4294967296 ^ q := Nat.pow_le_pow_right (by decide) hqk
      rw [Nat.div_eq_of_lt (Nat.lt_of_lt_of_le h1 h2), Nat.zero_div])
    have hge : decide ((k1 : Int) ≤ (q : Int)) = true := decide_eq_true (by omega)
    go_enter Tryz.func52, Tryz.ntmps52
    go_wp2_with fail
    go_ret
    exact ⟨none, 0, 0, 0, rfl, Lib.hid HZ.out.symm, Nat.zero_le _, HH.out.zero⟩
  · have hge : decide ((k1 : Int) ≤ (q : Int)) = false := decide_eq_false (by omega)
    have hqk' : q < k1 := by omega
    go_enter Tryz.func52, Tryz.ntmps52
    go_wp2_with fail
    go_loopw [5, 6, 7] (fun vo vi vs wr => ∃ (j : Nat) (ao : Option Addr) (cap : Nat) (res : List Int), q + j ≤ k1 ∧ vi = .int .i64 ((q + j : Nat) : Int) ∧ vo = .slice ao j cap ∧ Hid (Digs (x / 2 ^ n) j res) ∧ Hid (Out w wr ao j cap res)) (fun vo vi vs wr => k1 - (intOf vi).toNat)
    case atStart => exact ⟨0, none, 0, [], by omega, rfl, rfl, Lib.hid (Digs.start _), Lib.hid (Out.start w)⟩
    case round =>
      obtain ⟨j, ao, cap, res, hj, rfl, rfl, HA, HO⟩ := hrel
      by_cases hlt : q + j < k1
      · have C1 := rat_h (HH.out.below HO.out.bl) A1 k1 c1 x (q + j + 1) M1.out (by omega) _ (Lib.hid (dg_getD x (q + j + 1)))
        have C2 := rat_h (HH.out.below HO.out.bl) A1 k1 c1 x (q + j) M1.out (by omega) _ (Lib.hid (dg_getD x (q + j)))
        have hD := rshr_digit x q r j hr32
        have hA := HA.out.next
        rw [HQ.out, ← hD] at hA
        obtain ⟨hi1, hh1⟩ : ∃ z, x / 4294967296 ^ (q + j + 1) % 4294967296 = z := ⟨_, rfl⟩
        obtain ⟨lo1, hl1⟩ : ∃ z, x / 4294967296 ^ (q + j) % 4294967296 = z := ⟨_, rfl⟩
        have g1 : hi1 < 4294967296 := by rw [← hh1]; exact Nat.mod_lt _ (by decide)
        have g2 : lo1 < 4294967296 := by rw [← hl1]; exact Nat.mod_lt _ (by decide)
        rw [hh1] at C1 hA
        rw [hl1] at C2 hA
        obtain ⟨y, hy⟩ : ∃ y, (hi1 * 4294967296 + lo1) / 2 ^ r = y := ⟨_, rfl⟩
        rw [hy] at hA
        have f1 : ((hi1 : Int) * 4294967296 + (lo1 : Int)) / 2 ^ r = (y : Int) := by rw [← hy, Int.natCast_ediv, Int.natCast_add, Int.natCast_mul, Int.natCast_pow]; rfl
        have f2 : (y : Int) % 4294967296 = ((y % 4294967296 : Nat) : Int) := by omega
        have HAS := Lib.hid (show Digs (x / 2 ^ n) (j + 1) (res ++ [((y % 4294967296 : Nat) : Int)]) by rw [HQ.out]; exact hA)
        have hsz := HO.out.sz
        have hij : (((q + j : Nat) : Int) + 1) = ((q + j + 1 : Nat) : Int) := by omega
        obtain ⟨X, hX⟩ : ∃ X : Int, ((y % 4294967296 : Nat) : Int) = X := ⟨_, rfl⟩
        rw [hX] at HAS f2
        clear hA hD hh1 hl1 hy hX
        go_wp2_with fail
        refine C1.mono ?_
        rintro e w' ⟨rfl, rfl⟩
        go_wp2_with fail
        refine C2.mono ?_
        rintro e w' ⟨rfl, rfl⟩
        clear C1 C2
        go_wp2_with (at_builtin; refine wpList_append_own _ rfl _ _ 23 rfl w.heap.size 57 i0 (.int .u32 0) 1 4 Tryz.underlying23 hi hz0 hz1 hz2 rfl (by decide) _ _ _ rfl (HO.out.row.alloc _) ⟨wr.heap.size, 0, none⟩ 1 1 [.int .u32 X] rfl rfl (cell_one_new _ _ _) (by simp [Value.oneCell']) (by unfold maxLen; omega) (by omega) (by simp; omega) ?_; intro v' w2 hown' hgrow _; have Hg' := Lib.hid (show (wr.alloc (.cells #[.int .u32 X] 57)).grownBy w2 (Value.slice ao j cap).ownBlock from hgrow); clear hgrow; obtain ⟨g', cap', rfl⟩ := ownsRow_succ hown'; have HO2 := Lib.hid (HO.out.next Hg'.out hown'); clear hown' Hg')
        go_roundw
        case rel => exact ⟨j + 1, _, cap', _, by omega, by first | rfl | go_num | (congr 1), rfl, HAS, HO2⟩
        case measure => simp [intOf]; omega
      · obtain ⟨j', rfl⟩ : ∃ j', j' = j := ⟨_, rfl⟩
        have hkj : k1 = q + j' := by omega
        have hm : x / 2 ^ n < 4294967296 ^ j' := by
          rw [HQ.out, Nat.pow_add, ← Nat.div_div_eq_div_mul, ← pow32]
          refine Nat.lt_of_le_of_lt (Nat.div_le_self _ _) ?_
          refine Nat.div_lt_of_lt_mul ?_
          rw [← Nat.pow_add, ← hkj]
          exact lt_of_len (Nat.le_of_eq e1.out)
        have HT := Lib.hid (HO.out.trim HH.out HA.out.len (by omega) HA.out.ok (x / 2 ^ n) (HA.out.fin hm) k1 HLEN.out)
        have hnl : ¬ q + j' < k1 := hlt
        clear hm hkj
        go_wp2_with fail
        refine HT.out.mono ?_
        rintro e w' ⟨A', k', c', n', rfl, hn, hk, h⟩
        have HF := Lib.hid h
        clear h
        go_wp2_with fail
        go_ret
        exact ⟨A', k', c', n', rfl, hn, hk, HF.out⟩
end Go.Proofs.YtfcfejlffmddnaaGreatDoor
end
section
/- Contracts of the reference: Shl. -/
namespace Go.Proofs.YtfcfejlffmddnaaGreatDoor
open Go.RowKit
set_option linter.unusedSimpArgs false
set_option linter.unusedVariables false
set_option linter.constructorNameAsVariable false

theorem made_take (q c : Nat) (hqc : q ≤ c) : (madeCells #[(.int .u32 0 : Value)] c).toList.take q = (List.replicate q (0 : Int)).map (.int .u32) := by
  apply List.ext_getElem?
  intro i
  rw [List.getElem?_take, List.getElem?_map, List.getElem?_replicate]
  by_cases h : i < q
  · rw [if_pos h, if_pos h]
    have hc : i < c := by omega
    simp [madeCells, hc, Nat.mod_one]
  · rw [if_neg h, if_neg h]; rfl
theorem Out.made (w : World) (q c : Nat) (hqc : q ≤ c) (hc : c ≤ 9223372036854775807) : Out w (w.alloc (.cells (madeCells #[.int .u32 0] c) 57)) (some ⟨w.heap.size, 0, none⟩) q c (List.replicate q 0) :=
  ⟨⟨by simp, .inr ⟨w.heap.size, c, _, rfl, Nat.le_refl _, World.alloc_heap_new w _, hqc, by unfold maxLen; omega, by rw [size_madeCells, Nat.mul_one], by rw [Nat.mul_one]; exact made_take q c hqc⟩⟩,
    (Below.refl _ _).alloc (Nat.le_refl _) _, by simp⟩
theorem make_cap (q c : Nat) (hqc : q ≤ c) (hc : c ≤ 1000000) (W : World) :
    (Instr.makeSlice 23 (.int .i64 (q : Int)) (.int .i64 (c : Int))).run Tryz.prog W = .ok (.slice (some ⟨W.heap.size, 0, none⟩) q c) (W.alloc (.cells (madeCells #[.int .u32 0] c) 57)) := by
  obtain ⟨i0, hi, hz0, hz1, hz2⟩ := info_u32
  have hr := run_make (P := Tryz.prog) W 23 57 i0 (.int .u32 0) Tryz.underlying23 hi hz0 .i64 .i64 q c (by omega) (by omega) (by rw [hz2]; omega) (by omega)
  simp only [Int.toNat_natCast, hz1, Nat.mul_one] at hr
  exact hr
variable {w0 w : World} {l : List (Option Addr × Nat × Nat × Nat)}
set_option maxRecDepth 10000 in
set_option maxHeartbeats 2000000 in
theorem rshl_h (H : Has w0 w l) (A1 : Option Addr) (k1 c1 x : Nat) (n : Nat) (h1 : (A1, k1, c1, x) ∈ l) (b1 : k1 ≤ 10000) (hn : n ≤ 9223372036854775807) (hn0 : k1 ≠ 0 → n ≤ 100000) :
    Calls Tryz.prog 53 #[.slice A1 k1 c1, .int .i64 n] w (Made w0 l (x * 2 ^ n) 20000) := by
  have e1 := Lib.hid (H.len h1)
  by_cases hk : k1 = 0
  · have hx : x = 0 := (dg_nil_iff x).1 (by rw [e1.out, hk])
    subst hk
    subst hx
    have HH := Lib.hid H
    have M1 := Lib.hid h1
    clear H h1
    go_enter Tryz.func53, Tryz.ntmps53
    go_wp2_with fail
    go_ret
    obtain ⟨r1, e, p, q⟩ := HH.out.at M1.out
    exact ⟨A1, 0, c1, 0, rfl, Lib.hid (by rw [Nat.zero_mul]), by omega, HH.out.cons r1 e p q⟩
  · have hn1 := hn0 hk
    have hk0 : ((k1 : Int) == 0) = false := by simp; omega
    obtain ⟨i0, hi, hz0, hz1, hz2⟩ := info_u32
    obtain ⟨q, hq⟩ : ∃ q, n / 32 = q := ⟨_, rfl⟩
    obtain ⟨r, hr⟩ : ∃ r, n % 32 = r := ⟨_, rfl⟩
    have hnq : n = 32 * q + r := by omega
    have hr32 : r < 32 := by omega
    have hq2 : q ≤ 3125 := by omega
    have m1 := make_cap q (q + k1 + 1) (by omega) (by omega)
    rw [show ((q + k1 + 1 : Nat) : Int) = (q : Int) + (k1 : Int) + 1 by omega] at m1
    have HLEN : Hid ((dg (x * 2 ^ n)).length ≤ 20000) := Lib.hid (by
      have h1 := len_mul x (2 ^ n)
      obtain ⟨K, hK⟩ : ∃ K, K = 3126 := ⟨_, rfl⟩
      have h2 : (dg (2 ^ n)).length ≤ K := by
        refine len_of_lt ?_
        rw [pow32]
        exact Nat.pow_lt_pow_right (by decide) (by omega)
      have := e1.out
      omega)
    have x1 : (n : Int).tdiv 32 = (q : Int) := by rw [Int.tdiv_eq_ediv_of_nonneg (by omega)]; omega
    have x2 : (n : Int).tmod 32 = (r : Int) := by rw [Int.tmod_eq_emod_of_nonneg (by omega)]; omega
    have x3 : wrap64 (q : Int) = (q : Int) := by unfold wrap64; omega
    have HH := Lib.hid H
    have M1 := Lib.hid h1
    have HQ := Lib.hid hnq
    obtain ⟨r1, _, _, _⟩ := H.at h1
    obtain ⟨b, o, rfl, hcc⟩ := r1 (by intro h; rw [← List.length_eq_zero_iff, e1.out] at h; exact hk h)
    have HC := Lib.hid hcc
    clear H h1 hq hr hnq r1 hk hcc
    go_enter Tryz.func53, Tryz.ntmps53
    go_wp2_with fail
    go_loopw [5, 6, 7, 8] (fun vo vc vi vs wr => ∃ (i : Nat) (ao : Option Addr) (cap : Nat) (res : List Int) (cy : Int), i ≤ k1 ∧ vi = .int .i64 i ∧ vo = .slice ao (q + i) cap ∧ vc = .int .u64 cy ∧ 0 ≤ cy ∧ cy < 4294967296 ∧ Hid (ShlInv (dg x) q r i res cy) ∧ Hid (Out w wr ao (q + i) cap res)) (fun vo vc vi vs wr => k1 - (intOf vi).toNat)
    case atStart => exact ⟨0, _, _, _, 0, by omega, rfl, rfl, rfl, by omega, by omega, Lib.hid (ShlInv.start _ _ _), Lib.hid (Out.made w q (q + k1 + 1) (by omega) (by omega))⟩
    case round =>
      obtain ⟨i, ao, cap, res, cy, hiN, rfl, rfl, rfl, cy0, cy1, HA, HO⟩ := hrel
      by_cases hlt : i < k1
      · obtain ⟨xi, hxi⟩ : ∃ z, (dg x)[i]? = some z := ⟨_, List.getElem?_eq_getElem (by rw [e1.out]; exact hlt)⟩
        obtain ⟨y0, y1⟩ := dgs_at (dgs_dg x) hxi
        have hcx := HC.out i xi hxi
        have hlt1 := World.block_lt_of_cell? w _ hcx
        rw [← HO.out.bl.cell (p := ⟨b, o + i, none⟩) hlt1] at hcx
        have hA := ShlInv.step (dgs_dg x) HA.out xi hxi (xi * 2 ^ r + cy) (Int.add_comm _ _)
        have hc3 := hA.c1
        have hc4 := hA.c0
        have hp := pow2_32 (show r ≤ 32 by omega)
        have HAS := Lib.hid hA
        have hsz := HO.out.sz
        have hp2 := pow2_pos r
        have hm1 : xi * 2 ^ r ≤ 4294967295 * 4294967296 := Int.mul_le_mul (by omega) hp (by omega) (by omega)
        have hm0 : 0 ≤ xi * 2 ^ r := Int.mul_nonneg y0 (by omega)
        obtain ⟨p, hp3⟩ : ∃ p, xi * 2 ^ r = p := ⟨_, rfl⟩
        rw [hp3] at hm1 hm0 hc3 hc4
        have f1 : IntKind.u64.wrap (xi * 2 ^ r) = p := by rw [hp3]; unfold IntKind.wrap; simp [IntKind.bits, IntKind.signed]; omega
        clear hA hxi
        go_wp2_with (at_builtin; refine wpList_append_own _ rfl _ _ 23 rfl w.heap.size 57 i0 (.int .u32 0) 1 4 Tryz.underlying23 hi hz0 hz1 hz2 rfl (by decide) _ _ _ rfl (HO.out.row.alloc _) ⟨wr.heap.size, 0, none⟩ 1 1 [.int .u32 ((p + cy) % 4294967296)] rfl rfl (cell_one_new _ _ _) (by simp [Value.oneCell']) (by unfold maxLen; omega) (by omega) (by simp; omega) ?_; intro v' w2 hown' hgrow _; have Hg' := Lib.hid (show (wr.alloc (.cells #[.int .u32 ((p + cy) % 4294967296)] 57)).grownBy w2 (Value.slice ao (q + i) cap).ownBlock from hgrow); clear hgrow; obtain ⟨g', cap', rfl⟩ := ownsRow_succ hown'; have HO2 := Lib.hid (HO.out.next Hg'.out hown'); clear hown' Hg')
        go_roundw
        case rel => exact ⟨i + 1, _, cap', _, _, by omega, by go_num, rfl, rfl, hc4, by omega, (by have := HAS; rw [hp3] at this; exact this), HO2⟩
        case measure => simp [intOf]; omega
      · obtain rfl : k1 = i := by omega
        have hsz := HO.out.sz
        have hfin := ShlInv.fin (show ShlInv (dg x) q r (dg x).length res cy by rw [e1.out]; exact HA.out)
        rw [← HQ.out] at hfin
        have hd := dgs_snoc HA.out.ok cy0 cy1
        have hlr : (res ++ [cy]).length = q + k1 + 1 := by rw [List.length_append, HA.out.len]; rfl
        have f2 : cy % 4294967296 = cy := by omega
        have HT := fun (w2 : World) (ao' : Option Addr) (cap' : Nat) (ho : Out w w2 ao' (q + k1 + 1) cap' (res ++ [cy])) => ho.trim HH.out hlr (by omega) hd (x * 2 ^ n) hfin 20000 HLEN.out
        have HTT := Lib.hid HT
        clear HT hfin hd hlr
        go_wp2_with (at_builtin; refine wpList_append_own _ rfl _ _ 23 rfl w.heap.size 57 i0 (.int .u32 0) 1 4 Tryz.underlying23 hi hz0 hz1 hz2 rfl (by decide) _ _ _ rfl (HO.out.row.alloc _) ⟨wr.heap.size, 0, none⟩ 1 1 [.int .u32 cy] rfl rfl (cell_one_new _ _ _) (by simp [Value.oneCell']) (by unfold maxLen; omega) (by omega) (by simp; omega) ?_; intro v' w2 hown' hgrow _; have Hg' := Lib.hid (show (wr.alloc (.cells #[.int .u32 cy] 57)).grownBy w2 (Value.slice ao (q + k1) cap).ownBlock from hgrow); clear hgrow; obtain ⟨g', cap', rfl⟩ := ownsRow_succ hown'; have HO2 := Lib.hid (HO.out.next Hg'.out hown'); clear hown' Hg')
        refine (HTT.out _ _ _ HO2.out).mono ?_
        rintro e w' ⟨A', k', c', n', rfl, hn, hk, h⟩
        have HF := Lib.hid h
        clear h
        go_wp2_with fail
        go_ret
        exact ⟨A', k', c', n', rfl, hn, hk, HF.out⟩
end Go.Proofs.YtfcfejlffmddnaaGreatDoor
end
section
/- Contracts of the reference: Sub. -/
namespace Go.Proofs.YtfcfejlffmddnaaGreatDoor
open Go.RowKit
set_option linter.unusedSimpArgs false
set_option linter.unusedVariables false
set_option linter.constructorNameAsVariable false

variable {w0 w : World} {l : List (Option Addr × Nat × Nat × Nat)}
set_option maxRecDepth 10000 in
set_option maxHeartbeats 2000000 in
theorem rsub_h (H : Has w0 w l) (A1 : Option Addr) (k1 c1 x : Nat) (A2 : Option Addr) (k2 c2 y : Nat) (h1 : (A1, k1, c1, x) ∈ l) (h2 : (A2, k2, c2, y) ∈ l) (b1 : k1 ≤ 10000) (b2 : k2 ≤ 10000) (hxy : Hid (y ≤ x)) :
    Calls Tryz.prog 44 #[.slice A1 k1 c1, .slice A2 k2 c2] w (Made w0 l (x - y) 10001) := by
  have e1 := Lib.hid (H.len h1)
  have e2 := Lib.hid (H.len h2)
  obtain ⟨i0, hi, hz0, hz1, hz2⟩ := info_u32
  have HLEN : Hid ((dg (x - y)).length ≤ 10001) := Lib.hid (by have := lenle (Nat.sub_le x y) (Nat.le_refl _); have := e1.out; omega)
  have HH := Lib.hid H
  have M1 := Lib.hid h1
  have M2 := Lib.hid h2
  clear H h1 h2
  go_enter Tryz.func44, Tryz.ntmps44
  go_wp2_with fail
  go_loopw [5, 6, 7, 8] (fun vo vc vi vs wr => ∃ (i : Nat) (ao : Option Addr) (cap : Nat) (res : List Int) (cy : Int), i ≤ k1 ∧ vi = .int .i64 i ∧ vo = .slice ao i cap ∧ vc = .int .u64 cy ∧ 0 ≤ cy ∧ cy ≤ 1 ∧ Hid (SubInv (dg x) (dg y) i res cy) ∧ Hid (Out w wr ao i cap res)) (fun vo vc vi vs wr => k1 - (intOf vi).toNat)
  case atStart => exact ⟨0, none, 0, [], 0, by omega, rfl, rfl, rfl, by omega, by omega, Lib.hid (SubInv.start _ _), Lib.hid (Out.start w)⟩
  case round =>
    obtain ⟨i, ao, cap, res, cy, hiN, rfl, rfl, rfl, cy0, cy1, HA, HO⟩ := hrel
    by_cases hlt : i < k1
    · obtain ⟨xi, hxi⟩ : ∃ z, (dg x).getD i 0 = z := ⟨_, rfl⟩
      obtain ⟨yi, hyi⟩ : ∃ z, (dg y).getD i 0 = z := ⟨_, rfl⟩
      obtain ⟨x0, x1⟩ := dgs_getD (dgs_dg x) i
      obtain ⟨y0, y1⟩ := dgs_getD (dgs_dg y) i
      rw [hxi] at x0 x1
      rw [hyi] at y0 y1
      obtain ⟨X, hX⟩ : ∃ X, (xi - yi - cy) % 4294967296 = X := ⟨_, rfl⟩
      obtain ⟨bo, hbo⟩ : ∃ bo : Int, (if xi - yi - cy < 0 then (1 : Int) else 0) = bo := ⟨_, rfl⟩
      obtain ⟨d, hd⟩ : ∃ d : Int, (xi - yi - cy) % 18446744073709551616 = d := ⟨_, rfl⟩
      have f1 : IntKind.u64.wrap (IntKind.u64.wrap (xi - yi) - cy) = d := by unfold IntKind.wrap; simp [IntKind.bits, IntKind.signed]; omega
      have f2 : d % 4294967296 = X := by omega
      have f3 : d / 9223372036854775808 = bo := by split at hbo <;> omega
      have hA := SubInv.step (dgs_dg x) (dgs_dg y) HA.out (xi - yi - cy) (by rw [hxi, hyi])
      rw [hX, hbo] at hA
      have bo0 : 0 ≤ bo := by split at hbo <;> omega
      have bo1 : bo ≤ 1 := by split at hbo <;> omega
      have HAS := Lib.hid hA
      have C1 := rat_h (HH.out.below HO.out.bl) A1 k1 c1 x i M1.out (by omega) xi (Lib.hid hxi)
      have C2 := rat_h (HH.out.below HO.out.bl) A2 k2 c2 y i M2.out (by omega) yi (Lib.hid hyi)
      have hsz := HO.out.sz
      clear hA hxi hyi hX hbo hd
      go_wp2_with fail
      refine C1.mono ?_
      rintro e w' ⟨rfl, rfl⟩
      go_wp2_with fail
      refine C2.mono ?_
      rintro e w' ⟨rfl, rfl⟩
      clear C1 C2
      go_wp2_with (at_builtin; refine wpList_append_own _ rfl _ _ 23 rfl w.heap.size 57 i0 (.int .u32 0) 1 4 Tryz.underlying23 hi hz0 hz1 hz2 rfl (by decide) _ _ _ rfl (HO.out.row.alloc _) ⟨wr.heap.size, 0, none⟩ 1 1 [.int .u32 X] rfl rfl (cell_one_new _ _ _) (by simp [Value.oneCell']) (by unfold maxLen; omega) (by omega) (by simp; omega) ?_; intro v' w2 hown' hgrow _; have Hg' := Lib.hid (show (wr.alloc (.cells #[.int .u32 X] 57)).grownBy w2 (Value.slice ao i cap).ownBlock from hgrow); clear hgrow; obtain ⟨g', cap', rfl⟩ := ownsRow_succ hown'; have HO2 := Lib.hid (HO.out.next Hg'.out hown'); clear hown' Hg')
      go_roundw
      case rel => exact ⟨i + 1, _, cap', _, _, by omega, by go_num, rfl, rfl, by omega, by omega, HAS, HO2⟩
      case measure => simp [intOf]; omega
    · obtain rfl : k1 = i := by omega
      have hv := (show SubInv (dg x) (dg y) (dg x).length res cy by rw [e1.out]; exact HA.out).fin hxy.out
      have HT := Lib.hid (HO.out.trim HH.out HA.out.len (by omega) HA.out.ok (x - y) hv 10001 HLEN.out)
      clear hv
      go_wp2_with fail
      refine HT.out.mono ?_
      rintro e w' ⟨A', k', c', n', rfl, hn, hk, h⟩
      have HF := Lib.hid h
      clear h
      go_wp2_with fail
      go_ret
      exact ⟨A', k', c', n', rfl, hn, hk, HF.out⟩
end Go.Proofs.YtfcfejlffmddnaaGreatDoor
end
section
/- Contracts of the reference: Bits, Bit, Zeros. -/
namespace Go.Proofs.YtfcfejlffmddnaaGreatDoor
open Go.RowKit
set_option linter.unusedSimpArgs false
set_option linter.unusedVariables false
set_option linter.constructorNameAsVariable false

variable {w0 w : World} {l : List (Option Addr × Nat × Nat × Nat)}
theorem bl_half {y : Nat} (h : 0 < y) : bl y = bl (y / 2) + 1 := by
  by_cases h2 : y / 2 = 0
  · obtain rfl : y = 1 := by omega
    decide
  · obtain ⟨h3, h4, h5⟩ := bl_spec h2
    obtain ⟨b, hb⟩ : ∃ b, bl (y / 2) = b + 1 := ⟨bl (y / 2) - 1, by omega⟩
    rw [hb] at h4 h5 ⊢
    rw [Nat.add_sub_cancel] at h4
    refine bl_unique ?_ ?_
    · rw [Nat.pow_succ]; omega
    · rw [Nat.pow_succ]; omega
set_option maxRecDepth 10000 in
set_option maxHeartbeats 1000000 in
theorem rbits_h (H : Has w0 w l) (A1 : Option Addr) (k1 c1 x : Nat) (h1 : (A1, k1, c1, x) ∈ l) (b1 : k1 ≤ 10000) :
    Calls Tryz.prog 59 #[.slice A1 k1 c1] w fun e w' => e = .returned (.int .i64 (bl x)) ∧ w = w' := by
  have e1 := H.len h1
  by_cases hx : x = 0
  · subst hx
    rw [dg_zero] at e1
    obtain rfl : k1 = 0 := e1.symm
    clear e1 h1 H
    rw [bl_zero]
    go_enter Tryz.func59, Tryz.ntmps59
    go_wp2_with fail
    go_ret
    exact ⟨rfl, rfl⟩
  · obtain ⟨m, t, hm, ht, ht0, ht1, hb⟩ := top_at x hx
    obtain rfl : k1 = m + 1 := by omega
    obtain ⟨r1, _, _, _⟩ := H.at h1
    obtain ⟨b, o, rfl, hcc⟩ := r1 (by intro h; rw [h] at hm; simp at hm)
    have hcell := hcc m _ ht
    have hmm : ((m + 1 : Nat) : Int) - 1 = m := by omega
    have hk0 : (((m + 1 : Nat) : Int) == 0) = false := by simp; omega
    have HB := Lib.hid hb
    clear hcc ht hm r1 h1 H hx e1 hb
    go_enter Tryz.func59, Tryz.ntmps59
    go_wp2_with fail
    go_loop [4, 5] (fun v4 v5 => ∃ (j y : Nat), v4 = .int .i64 (32 * (m : Int) + j) ∧ v5 = .int .u32 y ∧ j ≤ 32 * 10000 ∧ y < 4294967296 ∧ Hid (bl t = j + bl y)) (fun v4 v5 => (intOf v5).toNat)
    case atStart => exact ⟨0, t, by first | rfl | simp, rfl, by omega, ht1, Lib.hid (Nat.zero_add _).symm⟩
    case round =>
      obtain ⟨j, y, rfl, rfl, hj, hy, HI⟩ := hrel
      by_cases hy0 : 0 < y
      · have HN : Hid (bl t = j + 1 + bl (y / 2)) := Lib.hid (by rw [HI.out, bl_half hy0]; omega)
        have hj2 : j + 1 ≤ 32 * 10000 := by
          have h1 := HN.out
          have h2 : bl t ≤ 32 := (bl_le (n := t) (k := 32)).2 ht1
          omega
        obtain ⟨y2, hy2⟩ : ∃ y2, y / 2 = y2 := ⟨_, rfl⟩
        have f1 : (y : Int).tdiv 2 = (y2 : Int) := by rw [Int.tdiv_eq_ediv_of_nonneg (by omega)]; omega
        have f2 : (y : Int) / 2 = (y2 : Int) := by omega
        have f3 : y2 < y := by omega
        rw [hy2] at HN
        clear hy2
        go_wp2_with fail
        go_round
        case rel => exact ⟨j + 1, y2, by first | rfl | (congr 1; omega), by first | rfl | simp, by omega, by omega, HN⟩
        case measure => simp [intOf]; omega
      · obtain rfl : y = 0 := by omega
        have hf : ((bl x : Nat) : Int) = 32 * (m : Int) + j := by
          have h1 := HI.out
          have h2 := HB.out
          rw [bl_zero] at h1
          omega
        go_wp2_with fail
        go_ret
        exact ⟨by first | rfl | (rw [hf]; rfl), rfl⟩
theorem bit_eq (x i : Nat) : x / 4294967296 ^ (i / 32) % 4294967296 / 2 ^ (i % 32) % 2 = x / 2 ^ i % 2 := by
  obtain ⟨q, hq⟩ : ∃ q, i / 32 = q := ⟨_, rfl⟩
  obtain ⟨r, hr⟩ : ∃ r, i % 32 = r := ⟨_, rfl⟩
  have hi : i = 32 * q + r := by omega
  have hr2 : r < 32 := by omega
  rw [hq, hr, hi, Nat.pow_add, ← Nat.div_div_eq_div_mul, ← pow32]
  generalize x / 4294967296 ^ q = y
  obtain ⟨s, hs⟩ : ∃ s, 32 = r + (s + 1) := ⟨31 - r, by omega⟩
  have h3 : (4294967296 : Nat) = 2 ^ r * (2 ^ s * 2) := by rw [← Nat.pow_succ, ← Nat.pow_add, ← hs]
  rw [h3, Nat.mod_mul_right_div_self, Nat.mul_comm (2 ^ s), Nat.mod_mul_right_mod]
set_option maxRecDepth 10000 in
theorem rbit_h (H : Has w0 w l) (A1 : Option Addr) (k1 c1 x : Nat) (i : Nat) (h1 : (A1, k1, c1, x) ∈ l) (b1 : k1 ≤ 10000) (hi : i ≤ 100000000) (z : Nat) (hz : Hid (x / 2 ^ i % 2 = z)) :
    Calls Tryz.prog 104 #[.slice A1 k1 c1, .int .i64 i] w fun e w' => e = .returned (.int .u64 z) ∧ w = w' := by
  have HA := rat_h H A1 k1 c1 x (i / 32) h1 (by omega) _ (Lib.hid (dg_getD x (i / 32)))
  have hb := bit_eq x i
  rw [hz.out] at hb
  obtain ⟨y, hy⟩ : ∃ y, x / 4294967296 ^ (i / 32) % 4294967296 = y := ⟨_, rfl⟩
  rw [hy] at HA hb
  have hy2 : y < 4294967296 := by rw [← hy]; exact Nat.mod_lt _ (by decide)
  obtain ⟨q, hq⟩ : ∃ q, i / 32 = q := ⟨_, rfl⟩
  obtain ⟨r, hr⟩ : ∃ r, i % 32 = r := ⟨_, rfl⟩
  rw [hq] at HA
  rw [hr] at hb
  have hr2 : r < 32 := by omega
  have x1 : (i : Int).tdiv 32 = (q : Int) := by rw [Int.tdiv_eq_ediv_of_nonneg (by omega)]; omega
  have x2 : (i : Int).tmod 32 = (r : Int) := by rw [Int.tmod_eq_emod_of_nonneg (by omega)]; omega
  have x3 : wrap64 (q : Int) = (q : Int) := by unfold wrap64; omega
  obtain ⟨s, hs⟩ : ∃ s, y / 2 ^ r = s := ⟨_, rfl⟩
  rw [hs] at hb
  have x4 : (y : Int) / 2 ^ r = (s : Int) := by rw [← hs, Int.natCast_ediv, Int.natCast_pow]; rfl
  have x5 : (s : Int).tmod 2 = (z : Int) := by rw [← hb, Int.tmod_eq_emod_of_nonneg (by omega)]; omega
  have x6 : (s : Int) % 2 = (z : Int) := by rw [← hb]; omega
  clear hq hr hs hb hy hz h1 H
  go_enter Tryz.func104, Tryz.ntmps104
  go_wp2_with fail
  refine HA.mono ?_
  rintro e w' ⟨rfl, rfl⟩
  go_wp2_with fail
  go_ret
  exact ⟨rfl, rfl⟩
theorem twos_bit {x z n : Nat} (hx : x ≠ 0) (h : Twos x z) (hn : n ≤ z) : x / 2 ^ n % 2 = if n = z then 1 else 0 := by
  rcases h with ⟨h, _⟩ | ⟨m, hm⟩
  · exact absurd h hx
  · obtain ⟨d, rfl⟩ : ∃ d, z = n + d := ⟨z - n, by omega⟩
    rw [hm, Nat.pow_add, Nat.mul_assoc, Nat.mul_div_cancel_left _ (Nat.pow_pos (by decide))]
    cases d with
    | zero => rw [if_pos (by omega)]; simp
    | succ d => rw [if_neg (by omega), Nat.pow_succ, Nat.mul_assoc, Nat.mul_left_comm]; exact Nat.mul_mod_right _ _
set_option maxRecDepth 10000 in
set_option maxHeartbeats 1000000 in
theorem rzeros_h (H : Has w0 w l) (A1 : Option Addr) (k1 c1 x : Nat) (h1 : (A1, k1, c1, x) ∈ l) (b1 : k1 ≤ 10000) (z : Nat) (hz : Hid (Twos x z)) (hzb : z ≤ 1000000) :
    Calls Tryz.prog 60 #[.slice A1 k1 c1] w fun e w' => e = .returned (.int .i64 z) ∧ w = w' := by
  have e1 := Lib.hid (H.len h1)
  by_cases hx : x = 0
  · subst hx
    have e2 := e1.out
    rw [dg_zero] at e2
    obtain rfl : k1 = 0 := e2.symm
    obtain rfl : z = 0 := by
      rcases hz.out with ⟨_, h⟩ | ⟨m, hm⟩
      · exact h
      · have h1 : 0 < 2 ^ z := Nat.pow_pos (by decide)
        have h2 : 0 < 2 ^ z * (2 * m + 1) := Nat.mul_pos h1 (by omega)
        omega
    clear e2 e1 h1 H hz
    go_enter Tryz.func60, Tryz.ntmps60
    go_wp2_with fail
    go_loop [3] (fun v => v = .int .i64 0) (fun v => 0)
    case atStart => exact rfl
    case round =>
      obtain rfl := hrel
      go_wp2_with fail
      go_ret
      exact ⟨rfl, rfl⟩
  · have hk : 0 < k1 := by
      rcases Nat.eq_zero_or_pos k1 with h | h
      · exact absurd ((dg_nil_iff x).1 (by rw [e1.out, h])) hx
      · exact h
    have HT := Lib.hid (fun n hn => twos_bit hx hz.out (n := n) hn)
    have HB := Lib.hid (fun (n : Nat) (hn : n ≤ 100000000) (v : Nat) hv => rbit_h H A1 k1 c1 x n h1 b1 hn v hv)
    clear hx h1 H hz
    go_enter Tryz.func60, Tryz.ntmps60
    go_wp2_with fail
    go_loop [3] (fun v => ∃ n : Nat, n ≤ z ∧ v = .int .i64 n) (fun v => z - (intOf v).toNat)
    case atStart => exact ⟨0, Nat.zero_le _, rfl⟩
    case round =>
      obtain ⟨n, hn, rfl⟩ := hrel
      have hbit := HT.out n hn
      by_cases he : n = z
      · subst he
        rw [if_pos rfl] at hbit
        go_wp2_with fail
        refine (HB.out n (by omega) 1 (Lib.hid hbit)).mono ?_
        rintro e w' ⟨rfl, rfl⟩
        go_wp2_with fail
        go_ret
        exact ⟨rfl, rfl⟩
      · rw [if_neg he] at hbit
        go_wp2_with fail
        refine (HB.out n (by omega) 0 (Lib.hid hbit)).mono ?_
        rintro e w' ⟨rfl, rfl⟩
        go_wp2_with fail
        go_round
        case rel => exact ⟨n + 1, by omega, by go_num⟩
        case measure => simp [intOf]; omega
end Go.Proofs.YtfcfejlffmddnaaGreatDoor
end
section
/- Contracts of the reference: Root. -/
namespace Go.Proofs.YtfcfejlffmddnaaGreatDoor
open Go.RowKit
set_option linter.unusedSimpArgs false
set_option linter.unusedVariables false
set_option linter.constructorNameAsVariable false

variable {w0 w : World} {l : List (Option Addr × Nat × Nat × Nat)}
/-- A quotient and a rest. -/
def RDiv (w0 : World) (l : List (Option Addr × Nat × Nat × Nat)) (q r : Nat) (e : Ending) (w' : World) : Prop :=
  ∃ A k c A' k' c', e = .returned (.agg #[.slice A k c, .slice A' k' c']) ∧ k ≤ 10000 ∧ k' ≤ 10000 ∧ Hid (Has w0 w' ((A, k, c, q) :: (A', k', c', r) :: l))
set_option maxRecDepth 10000 in
set_option maxHeartbeats 2000000 in
theorem rroot_low (H : Has w0 w l) (A1 : Option Addr) (k1 c1 a : Nat) (n : Nat) (h1 : (A1, k1, c1, a) ∈ l) (b1 : k1 ≤ 12) (ha : a ≤ 1) (hn : 1 ≤ n) (hnb : n ≤ 9223372036854775807) :
    Calls Tryz.prog 34 #[.slice A1 k1 c1, .int .i64 n] w (RDiv w0 l a 0) := by
  have HH := Lib.hid H
  have M1 := Lib.hid h1
  have hc : Hid (∃ r : Int, cmpI a 1 = r ∧ r ≤ 0) := Lib.hid (by
    unfold cmpI
    by_cases h : a < 1
    · exact ⟨_, if_pos h, by decide⟩
    · exact ⟨_, by rw [if_neg h, if_neg (by omega)], by decide⟩)
  obtain ⟨r, hr, hr0⟩ := hc.out
  have HR := Lib.hid hr
  obtain ⟨w1, hw1⟩ : ∃ w1, w.alloc (.cells #[.slice none 0 0, .slice none 0 0] 40) = w1 := ⟨_, rfl⟩
  have hD : DCell w1 w.heap.size (.slice none 0 0) (.slice none 0 0) := by rw [← hw1]; exact DCell.new w _
  have hs1 : w1.heap.size = w.heap.size + 1 := by rw [← hw1]; simp
  have H1 : Hid (Has w1 w1 l) := Lib.hid (by rw [← hw1]; exact (HH.out.alloc _).rebase)
  have HD := Lib.hid hD
  have HW1 := Lib.hid hw1
  have HO := Lib.hid (H1.out.one 1 (by decide) (by decide))
  have C := rcmp_h HO.out A1 k1 c1 a _ 1 1 1 (.tail _ M1.out) (.head _) (by omega) (by decide) r HR
  clear H h1 ha hr hc hD hs1
  go_enter Tryz.func34, Tryz.ntmps34
  go_wp2_with fail
  refine C.mono ?_
  rintro e w' ⟨rfl, rfl⟩
  have HG := DCell.row 40 HW1.out HO.out
  go_wp2_with (refine wpList_store_row (o := { dst := none, op := .store 40 (.tmp 4) (.tmp 15), type := 0, pos := _, after := _, guard := none }) rfl 40 (.tmp 4) (.tmp 15) rfl w.heap.size #[.slice A1 k1 c1, .slice none 0 0] rfl rfl 40 #[.slice none 0 0, .slice none 0 0] HG (by kernel_rfl) rfl (by simp [Value.oneCell']) ?_)
  refine bodyPost_ret (results_cell_row rfl _ _ w.heap.size 40 _ (0, 0) _ rfl (setRow_heap _ _ _ _ _ _ HG) Tryz.underlying40 rfl (by kernel_rfl)) rfl ?_
  have HF := has_cell HH.out 40 HW1.out HO.out #[.slice A1 k1 c1, .slice none 0 0]
  have HF2 := HF.keep (l' := l) (fun p hp => .tail _ hp)
  obtain ⟨r1, x1, x2, x3⟩ := HF2.at M1.out
  exact ⟨A1, k1, c1, none, 0, 0, rfl, by omega, by omega, Lib.hid (HF2.zero.cons r1 x1 x2 x3)⟩
set_option maxRecDepth 10000 in
set_option maxHeartbeats 2000000 in
theorem rroot_mid (H : Has w0 w l) (A1 : Option Addr) (k1 c1 a : Nat) (n : Nat) (h1 : (A1, k1, c1, a) ∈ l) (b1 : k1 ≤ 12) (ha : 2 ≤ a) (hn : bl a ≤ n) (hnb : n ≤ 9223372036854775807) :
    Calls Tryz.prog 34 #[.slice A1 k1 c1, .int .i64 n] w (RDiv w0 l 1 (a - 1)) := by
  have HH := Lib.hid H
  have M1 := Lib.hid h1
  have HA := Lib.hid ha
  have HR : Hid (cmpI a 1 = 1) := Lib.hid (by unfold cmpI; rw [if_neg (by omega), if_pos (by omega)])
  obtain ⟨w1, hw1⟩ : ∃ w1, w.alloc (.cells #[.slice none 0 0, .slice none 0 0] 40) = w1 := ⟨_, rfl⟩
  obtain ⟨W0, hW0⟩ : ∃ W, w1.alloc (.cells #[.int .u32 1] 57) = W := ⟨_, rfl⟩
  obtain ⟨W2, hW2⟩ : ∃ W, W0.alloc (.cells #[.int .u32 1] 57) = W := ⟨_, rfl⟩
  obtain ⟨W3, hW3⟩ : ∃ W, W2.alloc (.cells #[.int .u32 1] 57) = W := ⟨_, rfl⟩
  have H1 : Hid (Has w1 w1 l) := Lib.hid (by rw [← hw1]; exact (HH.out.alloc _).rebase)
  have HW1 := Lib.hid hw1
  have HO : Hid (Has w1 W0 ((some ⟨w1.heap.size, 0, none⟩, 1, 1, 1) :: l)) := Lib.hid (by rw [← hW0]; exact H1.out.one 1 (by decide) (by decide))
  have HO2 : Hid (Has w1 W2 ((some ⟨W0.heap.size, 0, none⟩, 1, 1, 1) :: (some ⟨w1.heap.size, 0, none⟩, 1, 1, 1) :: l)) := Lib.hid (by rw [← hW2]; exact HO.out.one 1 (by decide) (by decide))
  have HO3 : Hid (Has w1 W3 ((some ⟨W2.heap.size, 0, none⟩, 1, 1, 1) :: (some ⟨W0.heap.size, 0, none⟩, 1, 1, 1) :: (some ⟨w1.heap.size, 0, none⟩, 1, 1, 1) :: l)) := Lib.hid (by rw [← hW3]; exact HO2.out.one 1 (by decide) (by decide))
  have C := rcmp_h HO.out A1 k1 c1 a _ 1 1 1 (.tail _ M1.out) (.head _) (by omega) (by decide) 1 HR
  have B := rbits_h HO.out A1 k1 c1 a (.tail _ M1.out) (by omega)
  have S3 := rsub_h HO3.out A1 k1 c1 a _ 1 1 1 (.tail _ (.tail _ (.tail _ M1.out))) (.head _) (by omega) (by decide) (Lib.hid (by omega))
  clear H h1 ha
  go_enter Tryz.func34, Tryz.ntmps34
  go_wp2_with fail
  refine C.mono ?_
  rintro e w' ⟨rfl, rfl⟩
  clear C
  go_wp2_with fail
  refine B.mono ?_
  rintro e w' ⟨rfl, rfl⟩
  clear B
  go_wp2_with fail
  refine S3.mono ?_
  rintro e w4 ⟨A', k', c', n', rfl, hn', hk', h⟩
  rw [hn'.out] at h
  have HX := Lib.hid h
  clear h hn' S3
  have HG := DCell.row 40 HW1.out HX.out
  go_wp2_with (refine wpList_store_row (o := { dst := none, op := .store 40 (.tmp 4) (.tmp 24), type := 0, pos := _, after := _, guard := none }) rfl 40 (.tmp 4) (.tmp 24) rfl w.heap.size #[.slice (some ⟨W0.heap.size, 0, none⟩) 1 1, .slice A' k' c'] rfl rfl 40 #[.slice none 0 0, .slice none 0 0] HG (by kernel_rfl) rfl (by simp [Value.oneCell']) ?_)
  refine bodyPost_ret (results_cell_row rfl _ _ w.heap.size 40 _ (0, 0) _ rfl (setRow_heap _ _ _ _ _ _ HG) Tryz.underlying40 rfl (by kernel_rfl)) rfl ?_
  have HF := has_cell HH.out 40 HW1.out HX.out #[.slice (some ⟨W0.heap.size, 0, none⟩) 1 1, .slice A' k' c']
  refine ⟨_, 1, 1, A', k', c', rfl, by decide, ?_, Lib.hid (HF.keep (fun p hp => ?_))⟩
  · have := HF.len (.head _)
    have h2 := lenle (Nat.sub_le a 1) (Nat.le_of_eq (HH.out.len M1.out))
    omega
  · rcases List.mem_cons.1 hp with rfl | hp
    · exact .tail _ (.tail _ (.head _))
    · rcases List.mem_cons.1 hp with rfl | hp
      · exact .head _
      · exact .tail _ (.tail _ (.tail _ (.tail _ hp)))
end Go.Proofs.YtfcfejlffmddnaaGreatDoor
end
section
/- Contracts of the reference: short. -/
namespace Go.Proofs.YtfcfejlffmddnaaGreatDoor
open Go.RowKit
set_option linter.unusedSimpArgs false
set_option linter.unusedVariables false
set_option linter.constructorNameAsVariable false

variable {w0 w : World} {l : List (Option Addr × Nat × Nat × Nat)}
set_option maxRecDepth 10000 in
set_option maxHeartbeats 4000000 in
theorem rshort_h (H : Has w0 w l) (A1 : Option Addr) (k1 c1 x : Nat) (b : Nat) (h1 : (A1, k1, c1, x) ∈ l) (b1 : k1 ≤ 10000) (hb0 : 0 < b) (hb1 : b < 4294967296) :
    Calls Tryz.prog 80 #[.slice A1 k1 c1, .int .u32 b] w (RDiv w0 l (x / b) (x % b)) := by
  obtain ⟨w1, hw1⟩ : ∃ w1, w.alloc (.cells #[.slice none 0 0, .slice none 0 0] 40) = w1 := ⟨_, rfl⟩
  have HH := Lib.hid H
  have H1 : Hid (Has w1 w1 l) := Lib.hid (by rw [← hw1]; exact (HH.out.alloc _).rebase)
  have HW1 := Lib.hid hw1
  obtain ⟨hr, hk, _, _⟩ := H1.out.at h1
  have m1 := run_make_row' (P := Tryz.prog) 23 57 (.int .u32 0) 4 Tryz.underlying23 info57 rfl .i64 .i64 k1 (by omega) (by omega)
  have HK := Lib.hid hk
  have HR := Lib.hid hr
  have HX0 := Lib.hid (lenle (Nat.div_le_self x b) (Nat.le_of_eq hk))
  obtain ⟨W, hW⟩ : ∃ W, w1.alloc (.cells (madeCells #[.int .u32 0] k1) 57) = W := ⟨_, rfl⟩
  have HW : Hid (Wr W w1.heap.size 0 (List.replicate k1 0)) := Lib.hid (by rw [← hW]; exact Wr.made _ _ _)
  have HB : Hid (Below w1.heap.size w1 W) := Lib.hid (by rw [← hW]; exact (Below.refl _ _).alloc (Nat.le_refl _) _)
  clear hk hr H h1
  go_enter Tryz.func80, Tryz.ntmps80
  go_wp2_with fail
  go_loopw [6, 7, 8] (fun v7 v8 vn wr => ∃ (j : Nat) (hi : List Int) (rest : Nat), j ≤ k1 ∧ v8 = .int .i64 ((j : Int) - 1) ∧ v7 = .int .u64 (rest : Int) ∧ rest < 4294967296 ∧ Hid (ShortInv x b j hi rest) ∧ Hid (Wr wr w1.heap.size 0 (List.replicate j 0 ++ hi)) ∧ Hid (Below w1.heap.size w1 wr)) (fun v7 v8 vn wr => (intOf v8 + 1).toNat)
  case atStart => exact ⟨k1, [], 0, Nat.le_refl _, rfl, rfl, by omega, Lib.hid (by rw [← HK.out]; exact ShortInv.start x b), by rw [List.append_nil]; exact HW, HB⟩
  case round =>
    obtain ⟨j, hi, rest, hj, rfl, rfl, hrest, HA, HW2, HB2⟩ := hrel
    cases j with
    | zero =>
      have hz : ¬ (0 : Int) ≤ ((0 : Nat) : Int) - 1 := by omega
      have hA := HA.out
      have hv : vl hi = ((x / b : Nat) : Int) := by rw [hA.val, Nat.pow_zero, Nat.div_one]
      have hl2 : rest = x % b := by rw [hA.left, Nat.pow_zero, Nat.div_one]
      have hlen : hi.length = k1 := by rw [hA.len, HK.out]; omega
      have hw2 : Wr wr w1.heap.size 0 hi := by have := HW2.out; simpa using this
      have HL := Lib.hid hl2
      have HTR := Lib.hid (rtrim_calls _ k1 k1 hi (x / b) wr hlen (Nat.le_refl _) (by omega) (by omega) hA.ok hv hw2.rd)
      have HXW := Lib.hid (H1.out.below HB2.out)
      clear hv hl2 hlen hw2 hA HA
      go_wp2_with fail
      refine HTR.out.mono ?_
      rintro e w2 ⟨A', c', rfl, hr, h3, h4, hb⟩
      have H2 := Lib.hid ((HXW.out.below hb).cons hr rfl h3 h4)
      clear hr h3 h4 hb
      go_wp2_with fail
      refine (rof_h H2.out rest (by omega)).mono ?_
      rintro e w3 ⟨A3, k3, c3, n3, rfl, hn3, b3, h⟩
      rw [hn3.out, HL.out] at h
      have H3 := Lib.hid h
      clear h hn3
      have HG := DCell.row 40 HW1.out H3.out
      obtain ⟨kq, hkq⟩ : ∃ kq, (dg (x / b)).length = kq := ⟨_, rfl⟩
      have HKQ := Lib.hid hkq
      rw [hkq]
      clear hkq
      go_wp2_with (refine wpList_store_row (o := { dst := none, op := .store 40 (.tmp 4) (.tmp 43), type := 0, pos := _, after := _, guard := none }) rfl 40 (.tmp 4) (.tmp 43) rfl w.heap.size #[.slice A' kq c', .slice A3 k3 c3] rfl rfl 40 #[.slice none 0 0, .slice none 0 0] HG (by kernel_rfl) rfl (by simp [Value.oneCell']) ?_)
      refine bodyPost_ret (results_cell_row rfl _ _ w.heap.size 40 _ (0, 0) _ rfl (setRow_heap _ _ _ _ _ _ HG) Tryz.underlying40 rfl (by kernel_rfl)) rfl ?_
      have HF := has_cell HH.out 40 HW1.out H3.out #[.slice A' kq c', .slice A3 k3 c3]
      refine ⟨A', kq, c', A3, k3, c3, rfl, ?_, by omega, Lib.hid (HF.keep (fun p hp => ?_))⟩
      · have := HX0.out
        have := HKQ.out
        omega
      · rw [← HKQ.out] at hp
        rcases List.mem_cons.1 hp with rfl | hp
        · exact .tail _ (.head _)
        · rcases List.mem_cons.1 hp with rfl | hp
          · exact .head _
          · exact .tail _ (.tail _ hp)
    | succ j =>
      have hz : ((j + 1 : Nat) : Int) - 1 = j := by omega
      have hge : decide ((0 : Int) ≤ (j : Int)) = true := decide_eq_true (by omega)
      obtain ⟨d, hd⟩ : ∃ d : Nat, (dg x).getD j 0 = (d : Int) := ⟨((dg x).getD j 0).toNat, by have := digit_lt x j; omega⟩
      have hd1 : d < 4294967296 := by have := digit_lt x j; omega
      have hjk : j < (dg x).length := by rw [HK.out]; omega
      obtain ⟨s, hs⟩ : ∃ s, rest * 4294967296 + d = s := ⟨_, rfl⟩
      obtain ⟨hA, hsb, hrb⟩ := ShortInv.step hb0 hjk HA.out d s hd hs.symm
      obtain ⟨b1', o1, hA1, hcell0⟩ := HR.out (by intro h; rw [h] at hjk; simp at hjk)
      subst hA1
      have hc0 := hcell0 j d (by rw [List.getElem?_eq_getElem hjk, ← hd, List.getD_eq_getElem?_getD, List.getElem?_eq_getElem hjk]; rfl)
      have hc0' : wr.cell? ⟨b1', o1 + j, none⟩ = some (.int .u32 d) := by rw [HB2.out.cell (p := ⟨b1', o1 + j, none⟩) (World.block_lt_of_cell? w1 _ hc0)]; exact hc0
      have hcell := HW2.out j 0 (low_get hi j)
      rw [Nat.zero_add] at hcell
      obtain ⟨hc1, hc2⟩ := hcell
      have hsum : (rest : Int) * 4294967296 + (d : Int) = (s : Int) := by omega
      have hrl : s % b < 4294967296 := Nat.lt_trans (Nat.mod_lt _ hb0) hb1
      obtain ⟨q, hqq⟩ : ∃ q, s / b = q := ⟨_, rfl⟩
      obtain ⟨r, hrr⟩ : ∃ r, s % b = r := ⟨_, rfl⟩
      have hq : ((s : Int).tdiv b) = (q : Int) := by rw [Int.tdiv_eq_ediv_of_nonneg (by omega), ← hqq]; exact (Int.natCast_ediv _ _).symm
      have hq' : ((s : Int) / b) = (q : Int) := by rw [← hqq]; exact (Int.natCast_ediv _ _).symm
      have hr2 : ((s : Int).tmod b) = (r : Int) := by rw [Int.tmod_eq_emod_of_nonneg (by omega), ← hrr]; exact (Int.natCast_emod _ _).symm
      have hr2' : ((s : Int) % b) = (r : Int) := by rw [← hrr]; exact (Int.natCast_emod _ _).symm
      rw [hqq] at hsb hA
      rw [hrr] at hrl hA
      have hqm : (q : Int) % 4294967296 = q := by omega
      have hbz : ((b : Int) == 0) = false := by simp; omega
      have hw : Wr (Go.World.setCell wr ⟨w1.heap.size, j, none⟩ (.int .u32 q)) w1.heap.size 0 (List.replicate j 0 ++ (q : Int) :: hi) := by
        have := HW2.out.set j q
        rwa [Nat.zero_add, low_set] at this
      have hb : ∀ v, Below w1.heap.size w1 (Go.World.setCell wr ⟨w1.heap.size, j, none⟩ v) := fun v => HB2.out.setCell (p := ⟨w1.heap.size, j, none⟩) (Nat.le_refl _) v
      have HAS := Lib.hid hA
      have HWS := Lib.hid hw
      have HBS := Lib.hid hb
      clear hd hjk hs hA hrb hcell0 hc0 hqq hrr hw hb HA HW2
      go_wp2_with fail
      go_roundw
      case rel => exact ⟨j, _, r, by omega, by first | rfl | (congr 1), rfl, hrl, HAS, HWS, Lib.hid (HBS.out _)⟩
      case measure => simp [intOf]
end Go.Proofs.YtfcfejlffmddnaaGreatDoor
end
section
/- Numerals read back. -/
namespace Go.Proofs.YtfcfejlffmddnaaGreatDoor
open Go.RowKit
set_option linter.unusedSimpArgs false
set_option linter.unusedVariables false
set_option linter.constructorNameAsVariable false

theorem u8_digit {d : Nat} (h : d < 10) : (UInt8.ofNat (48 + d)).toNat = 48 + d := by
  rw [UInt8.toNat_ofNat']; omega
theorem isDg_digit {d : Nat} (h : d < 10) : isDg (UInt8.ofNat (48 + d)) = true := by
  unfold isDg; rw [u8_digit h]; exact decide_eq_true (by omega)
theorem dec_spec (u : Nat) : (Lib.decDigits u).all isDg = true ∧ vd (Lib.decDigits u) = u ∧ Lib.decDigits u ≠ [] ∧ (u ≠ 0 → (Lib.decDigits u).head? ≠ some 48) := by
  induction u using Nat.strongRecOn with
  | _ u ih =>
    by_cases h : u < 10
    · rw [Lib.decDigits_one h]
      refine ⟨by rw [List.all_cons, List.all_nil, isDg_digit h]; rfl, by rw [show ∀ x : UInt8, [x] = [] ++ [x] from fun _ => rfl, vd_snoc, u8_digit h]; simp [vd], by simp, fun h0 he => ?_⟩
      have h1 : UInt8.ofNat (48 + u) = 48 := by simpa using he
      have h2 := congrArg UInt8.toNat h1
      rw [u8_digit h] at h2
      have : (48 : UInt8).toNat = 48 := rfl
      omega
    · obtain ⟨i1, i2, i3, i4⟩ := ih (u / 10) (by omega)
      have hd : u % 10 < 10 := Nat.mod_lt _ (by decide)
      rw [dec_big h]
      refine ⟨by rw [List.all_append, i1, List.all_cons, List.all_nil, isDg_digit hd]; rfl, ?_, by simp, fun h0 => ?_⟩
      · rw [vd_snoc, i2, u8_digit hd]; omega
      · have := i4 (by omega)
        cases hl : Lib.decDigits (u / 10) with
        | nil => exact absurd hl i3
        | cons x xs => rw [hl] at this; simpa using this
theorem dec_size {a : Nat} (h : (dg a).length ≤ 1024) : (Lib.decDigits a).length ≤ 10240 := by
  rw [Lib.decDigits_length]
  obtain ⟨k, hk⟩ : ∃ k, k = 1024 := ⟨_, rfl⟩
  rw [← hk] at h
  have h1 := lt_of_len h
  have h2 : 4294967296 ^ k ≤ (10 ^ 10) ^ k := Nat.pow_le_pow_left (by decide) k
  rw [← Nat.pow_mul] at h2
  have h3 := (pad_dec (10 * k) a (by omega) (Nat.lt_of_lt_of_le h1 h2)).2
  omega
theorem parO_dec {a : Nat} (h : (dg a).length ≤ 1024) : parO (Lib.decDigits a) = (0, a) := by
  obtain ⟨d1, d2, d3, d4⟩ := dec_spec a
  have hl := dec_size h
  have hf : formB (Lib.decDigits a) = true := by
    unfold formB
    rw [d1, decide_eq_true d3]
    by_cases h0 : a = 0
    · subst h0; rw [Lib.decDigits_one (by decide)]; decide
    · rw [decide_eq_true (d4 h0)]; simp
  unfold parO
  rw [if_neg (by omega), if_pos hf, d2, giv_ok h]
theorem dec_next {a d : Nat} (ha : a ≠ 0) (hd : d < 10) : S (Lib.decDigits (a * 10 + d)) = S (Lib.decDigits a) ++ S [UInt8.ofNat (48 + d)] := by
  rw [dec_big (by omega), show (a * 10 + d) / 10 = a by omega, show (a * 10 + d) % 10 = d by omega]
  symm
  apply S_of
  rw [L_append, L_S, L_S]
end Go.Proofs.YtfcfejlffmddnaaGreatDoor
end
section
/- Plain: the digits of a number, the last one ahead (for the reference's Text). -/
namespace Go.Proofs.YtfcfejlffmddnaaGreatDoor
set_option linter.unusedSimpArgs false
set_option linter.unusedVariables false
set_option linter.constructorNameAsVariable false

/-- The decimal digits, the last one ahead; none for 0. -/
def rd (v : Nat) : List UInt8 := if h : v = 0 then [] else UInt8.ofNat (48 + v % 10) :: rd (v / 10)
termination_by v
decreasing_by omega
theorem rd_zero : rd 0 = [] := by rw [rd]; simp
theorem rd_pos {v : Nat} (h : v ≠ 0) : rd v = UInt8.ofNat (48 + v % 10) :: rd (v / 10) := by rw [rd, dif_neg h]
theorem rd_dec {X : Nat} (h : X ≠ 0) : rd X = (Lib.decDigits X).reverse := by
  induction X using Nat.strongRecOn with
  | _ X ih =>
    rw [rd_pos h]
    by_cases h1 : X < 10
    · rw [Lib.decDigits_one h1, Nat.div_eq_of_lt h1, rd_zero, Nat.mod_eq_of_lt h1]; rfl
    · rw [dec_big h1, ih (X / 10) (by omega) (by omega), List.reverse_append]; rfl
/-- One digit of a block of nine: n is what is left of it, a what stands above. -/
theorem rd_block {a n i : Nat} (hi : i < 9) (h : a * 10 ^ (9 - i) + n ≠ 0) :
    rd (a * 10 ^ (9 - i) + n) = UInt8.ofNat (48 + n % 10) :: rd (a * 10 ^ (9 - (i + 1)) + n / 10) := by
  obtain ⟨k, hk⟩ : ∃ k, 9 - i = k + 1 := ⟨8 - i, by omega⟩
  have hk2 : 9 - (i + 1) = k := by omega
  rw [hk] at h
  rw [hk, hk2, rd_pos h]
  have e : a * 10 ^ (k + 1) + n = 10 * (a * 10 ^ k) + n := by rw [Nat.pow_succ, ← Nat.mul_assoc, Nat.mul_comm _ 10]
  rw [e]
  have h1 : (10 * (a * 10 ^ k) + n) % 10 = n % 10 := by omega
  have h2 : (10 * (a * 10 ^ k) + n) / 10 = a * 10 ^ k + n / 10 := by omega
  rw [h1, h2]
end Go.Proofs.YtfcfejlffmddnaaGreatDoor
end
section
/- A row of bytes that a loop makes (for the reference's Text). -/
namespace Go.Proofs.YtfcfejlffmddnaaGreatDoor
open Go.RowKit
set_option linter.unusedSimpArgs false
set_option linter.unusedVariables false
set_option linter.constructorNameAsVariable false

theorem info_u8 : ∃ i, Tryz.prog.info? 5 = some i ∧ i.zero = some (.int .u8 0) ∧ i.size = 1 ∧ i.bytes = 1 := by
  obtain ⟨i, hi, hzz⟩ := Option.map_eq_some_iff.1 info5
  simp only [Prod.mk.injEq] at hzz
  exact ⟨i, hi, hzz.1, hzz.2.1, hzz.2.2⟩
/-- A row of bytes that a loop has made so far. -/
structure OutB (w wr : World) (ao : Option Addr) (k cap : Nat) (bs : List UInt8) : Prop where
  row : wr.ownsRow w.heap.size 5 1 (.slice ao k cap) k (Lib.byteCells bs)
  bl : Below w.heap.size w wr
  sz : w.heap.size ≤ wr.heap.size
theorem OutB.start (w : World) : OutB w w none 0 0 [] := ⟨World.ownsRow_nil _ _ _ _, Below.refl _ _, Nat.le_refl _⟩
theorem OutB.next {w wr w2 : World} {ao : Option Addr} {k cap : Nat} {bs : List UInt8} (h : OutB w wr ao k cap bs) {c : UInt8} {T : TypeId} {ao' : Option Addr} {cap' : Nat}
    (hg : (wr.alloc (.cells #[.int .u8 c.toNat] T)).grownBy w2 (Value.slice ao k cap).ownBlock) (ho : w2.ownsRow w.heap.size 5 1 (.slice ao' (k + 1) cap') (k + 1) (Lib.byteCells bs ++ [.int .u8 c.toNat])) : OutB w w2 ao' (k + 1) cap' (bs ++ [c]) := by
  have hs := h.sz
  refine ⟨?_, (h.bl.alloc hs _).grown hg (by simp; omega) (fun i hi => own_ge h.row i hi), ?_⟩
  · rw [byteCells_append]
    exact ho
  · have := hg.size; simp at this; omega
theorem OutB.below {w wr w' : World} {ao : Option Addr} {k cap : Nat} {bs : List UInt8} (h : OutB w wr ao k cap bs) (hb : Below wr.heap.size wr w') : OutB w w' ao k cap bs := by
  refine ⟨⟨h.row.1, ?_⟩, h.bl.trans (hb.mono h.sz), Nat.le_trans h.sz hb.size⟩
  rcases h.row.2 with h1 | ⟨g, c2, cur, h1, h2, h3, h4⟩
  · exact Or.inl h1
  · exact Or.inr ⟨g, c2, cur, h1, h2, by rw [hb.block g (Array.getElem?_eq_some_iff.1 h3).1]; exact h3, h4⟩
end Go.Proofs.YtfcfejlffmddnaaGreatDoor
end
section
/- Contracts of the reference: Text, the loops that collect the digits. -/
namespace Go.Proofs.YtfcfejlffmddnaaGreatDoor
open Go.RowKit
set_option linter.unusedSimpArgs false
set_option linter.unusedVariables false
set_option linter.constructorNameAsVariable false

variable {w0 w : World} {l : List (Option Addr × Nat × Nat × Nat)}
set_option maxRecDepth 10000 in
theorem rtext_zero (H : Has w0 w l) (A1 : Option Addr) (c1 : Nat) (h1 : (A1, 0, c1, 0) ∈ l) :
    Calls Tryz.prog 38 #[.slice A1 0 c1] w fun e w' => e = .returned (.string (S (Lib.decDigits 0))) ∧ Hid (Has w0 w' l) := by
  have HH := Lib.hid H
  have hs : S (Lib.decDigits 0) = ⟨#[48]⟩ := by rw [Lib.decDigits_one (by decide)]; rfl
  rw [hs]
  clear H h1 hs
  go_enter Tryz.func38, Tryz.ntmps38
  go_wp2_with fail
  go_ret
  exact ⟨rfl, HH⟩
end Go.Proofs.YtfcfejlffmddnaaGreatDoor
end
section
/- A row of bytes that a loop makes: it holds bytes alone, so that what is alive beside it stays alive. -/
namespace Go.Proofs.YtfcfejlffmddnaaGreatDoor
open Go.RowKit
set_option linter.unusedSimpArgs false
set_option linter.unusedVariables false
set_option linter.constructorNameAsVariable false

theorem run_append8s {P : Program} (w : World) (base : Nat) (t ty e : TypeId) (i : TypeInfo) (ht : P.underlying t = some (.slice e)) (hi : P.info? e = some i) (hz : i.zero = some (.int .u8 0))
    (hsize : i.size = 1) (hby : i.bytes = 1) (v : Value) (n : Nat) (xs : List Value) (hown : w.ownsRow base e 1 v n xs) (ad : Addr) (m c : Nat) (news : List Value)
    (hl : news.length = m * 1) (hnews : ∀ j u, news[j]? = some u → w.cell? (ad.add j) = some u) (h1 : ∀ u ∈ news, u.oneCell' = true)
    (h63 : n + m ≤ maxLen) (hbytes : (n + m) * 1 ≤ 140737488355328) (hbase : base ≤ w.heap.size) (h8 : Row8 w v) (hxs : ∀ y ∈ xs, ∃ m, y = .int .u8 m) (hns : ∀ y ∈ news, ∃ m, y = .int .u8 m) :
    ∃ v' w', (Builtin.append_ #[t, t] ty #[v, .slice (some ad) m c]).run P w = .ok v' w' ∧ w'.ownsRow base e 1 v' (n + m) (xs ++ news) ∧ w.grownBy w' v.ownBlock ∧ Row8 w' v' := by
  obtain ⟨v', w', hr, h1', h2, _⟩ := run_append_own (P := P) w base t ty e i (.int .u8 0) 1 1 ht hi hz hsize hby rfl (by decide) v n xs hown ad m c news hl hnews h1 h63 hbytes hbase
  refine ⟨v', w', hr, h1', h2, ?_⟩
  have hsmall : n + m ≤ 9223372036854775807 := by simp only [maxLen] at h63; omega
  have hxl : xs.length = n := by simpa using hown.1
  have hnl : news.length = m := by simpa using hl
  rcases hown.2 with ⟨rfl, rfl⟩ | ⟨g, cap, cur, rfl, hbg, hg, hnc, hcm, hcs, htake⟩
  · by_cases hm : m = 0
    · subst hm
      have hr2 : (Builtin.append_ #[t, t] ty #[.slice none 0 0, .slice (some ad) 0 c]).run P w = .ok (.slice none 0 0) w := by
        simp [Builtin.append_, run_underlying ht, sizeOf, typeInfo, hi, Builtin.lenOf, Builtin.firstCells, loadCells, loadCellsFrom]
      have := hr.symm.trans hr2
      injection this with e1 e2
      subst e1 e2
      intro b cs T fr hb
      simp [Value.ownBlock] at hb
    · have hr2 := run_append_nil (P := P) w t ty e i (.int .u8 0) ht hi hz ad m c news (by rw [hsize]; exact hl) hnews (by omega) (by omega) (by rw [hby]; omega)
      have := hr.symm.trans hr2
      injection this with e1 e2
      subst e1 e2
      intro b cs T fr hb hh
      simp only [Value.ownBlock, Option.some.injEq] at hb
      subst hb
      have := (World.alloc_heap_new w.drew _).symm.trans hh
      simp only [Option.some.injEq, Obj.cells.injEq] at this
      rw [← this.1]
      intro y hy
      rw [Array.toList_append, List.mem_append] at hy
      rcases hy with hy | hy
      · exact hns y (by simpa using hy)
      · exact u8s_zero _ y hy
  · have hcur := h8 g cur e (0, 0) rfl hg
    by_cases hroom : n + m ≤ cap
    · have hcs' : cur.size = cap := by simpa using hcs
      have hr2 := run_append_room (P := P) w t ty e i ht hi g n cap cur hg ad m c news (by rw [hsize]; exact hl) hnews h1 hroom (by rw [hsize, hnl]; omega)
      have := hr.symm.trans hr2
      injection this with e1 e2
      subst e1 e2
      intro b cs T fr hb hh
      simp only [Value.ownBlock, Option.some.injEq] at hb
      subst hb
      have := (setRow_heap w g cur _ e _ hg).symm.trans hh
      simp only [Option.some.injEq, Obj.cells.injEq] at this
      rw [← this.1]
      intro y hy
      simp only [List.mem_append] at hy
      rcases hy with (hy | hy) | hy
      · exact hcur y (List.mem_of_mem_take hy)
      · exact hns y hy
      · exact hcur y (List.mem_of_mem_drop hy)
    · have holds : ∀ j u, xs[j]? = some u → w.cell? ((⟨g, 0, none⟩ : Addr).add j) = some u := hown.cells (g := g) rfl
      have hr2 := run_append_grow (P := P) w t ty e i (.int .u8 0) ht hi hz ⟨g, 0, none⟩ n cap xs (by rw [hsize]; simpa using hxl) holds ad m c news (by rw [hsize]; exact hl) hnews (by omega) (by omega) (by rw [hby]; exact growslice_fits (by omega) (by omega))
      have := hr.symm.trans hr2
      injection this with e1 e2
      subst e1 e2
      intro b cs T fr hb hh
      simp only [Value.ownBlock, Option.some.injEq] at hb
      subst hb
      have := (World.alloc_heap_new w.drew _).symm.trans hh
      simp only [Option.some.injEq, Obj.cells.injEq] at this
      rw [← this.1]
      intro y hy
      rw [Array.toList_append, Array.toList_append, List.mem_append, List.mem_append] at hy
      rcases hy with (hy | hy) | hy
      · exact hxs y (by simpa using hy)
      · exact hns y (by simpa using hy)
      · exact u8s_zero _ y hy
theorem wpList_append8s {P : Program} {w : World} {ops : Array Oper} {rest : List Oper} {o : Oper} {a : Act} {Q : Exit → Act → World → Prop} (hgd : o.guard = none) (sl x : Operand) (t : TypeId)
    (ho : o.op = .call { callee := .builtin .append, args := #[sl, x], argTypes := #[t, t] })
    (base : Nat) (e : TypeId) (i : TypeInfo) (ht : P.underlying t = some (.slice e)) (hi : P.info? e = some i) (hz : i.zero = some (.int .u8 0))
    (hsize : i.size = 1) (hby : i.bytes = 1)
    (v : Value) (n : Nat) (xs : List Value) (hs : a.eval sl = v) (hown : w.ownsRow base e 1 v n xs) (ad : Addr) (m c : Nat) (news : List Value) (hx : a.eval x = .slice (some ad) m c)
    (hl : news.length = m * 1) (hnews : ∀ j u, news[j]? = some u → w.cell? (ad.add j) = some u) (h1 : ∀ u ∈ news, u.oneCell' = true)
    (h63 : n + m ≤ maxLen) (hbytes : (n + m) * 1 ≤ 140737488355328) (hbase : base ≤ w.heap.size) (h8 : Row8 w v) (hxs : ∀ y ∈ xs, ∃ m, y = .int .u8 m) (hns : ∀ y ∈ news, ∃ m, y = .int .u8 m)
    (h : ∀ v' w', w'.ownsRow base e 1 v' (n + m) (xs ++ news) → w.grownBy w' v.ownBlock → Row8 w' v' → wpList P ops Q rest (a.put o.dst v') w') : wpList P ops Q (o :: rest) a w := by
  refine wpList_plain hgd fun K hK => ?_
  obtain ⟨v', w', hr, h2, h3, h4⟩ := run_append8s (P := P) w base t o.type e i ht hi hz hsize hby v n xs hown ad m c news hl hnews h1 h63 hbytes hbase h8 hxs hns
  unfold Oper.wp execOp
  simp only [ho, resolve, invoke, builtin, Sem.run_bind, Sem.run_pure, Result.andThen_ok, List.map_toArray, List.map_cons, List.map_nil, hs, hx, hr]
  exact hK _ _ (h v' w' h2 h3 h4)
/-- A row of bytes that a loop has made so far; it holds bytes alone. -/
structure OutC (w wr : World) (ao : Option Addr) (k cap : Nat) (bs : List UInt8) : Prop where
  o : OutB w wr ao k cap bs
  r8 : Row8 wr (.slice ao k cap)
theorem OutC.start (w : World) : OutC w w none 0 0 [] := ⟨OutB.start w, fun b cs T fr h => by simp [Value.ownBlock] at h⟩
theorem Row8.below {w w' : World} {v : Value} {B : Nat} {e : TypeId} {n : Nat} {xs : List Value} (h : Row8 w v) (hown : w.ownsRow B e 1 v n xs) (hb : Below w.heap.size w w') : Row8 w' v := fun b cs T fr hk hh => by
  have := hb.block b (own_lt hown hk).1
  exact h b cs T fr hk (this.symm.trans hh)
theorem Row8.alloc {w : World} {v : Value} {B : Nat} {e : TypeId} {n : Nat} {xs : List Value} (h : Row8 w v) (hown : w.ownsRow B e 1 v n xs) (o : Obj) : Row8 (w.alloc o) v :=
  h.below hown ((Below.refl _ w).alloc (Nat.le_refl _) o)
theorem OutC.below {w wr w' : World} {ao : Option Addr} {k cap : Nat} {bs : List UInt8} (h : OutC w wr ao k cap bs) (hb : Below wr.heap.size wr w') : OutC w w' ao k cap bs :=
  ⟨h.o.below hb, h.r8.below h.o.row hb⟩
theorem OutC.next {w wr w2 : World} {ao : Option Addr} {k cap : Nat} {bs : List UInt8} (h : OutC w wr ao k cap bs) {c : UInt8} {T : TypeId} {ao' : Option Addr} {cap' : Nat}
    (hg : (wr.alloc (.cells #[.int .u8 c.toNat] T)).grownBy w2 (Value.slice ao k cap).ownBlock) (ho : w2.ownsRow w.heap.size 5 1 (.slice ao' (k + 1) cap') (k + 1) (Lib.byteCells bs ++ [.int .u8 c.toNat])) (h8 : Row8 w2 (.slice ao' (k + 1) cap')) : OutC w w2 ao' (k + 1) cap' (bs ++ [c]) :=
  ⟨h.o.next hg ho, h8⟩
/-- A list of limbs does not lie in a block of bytes alone. -/
theorem Rd.not8 {w : World} {A : Option Addr} {g : List Int} (hR : Rd .u32 w A g) (hne : g ≠ []) : ∃ b o, A = some ⟨b, o, none⟩ ∧ ∀ cs T fr, w.heap[b]? = some (.cells cs T fr) → ¬ U8s cs := by
  obtain ⟨b, o, rfl, hc⟩ := hR hne
  refine ⟨b, o, rfl, fun cs T fr hh h8 => ?_⟩
  obtain ⟨x, hx⟩ : ∃ x, g[0]? = some x := ⟨_, List.getElem?_eq_getElem (List.length_pos_iff.2 hne)⟩
  have h1 := hc 0 x hx
  rw [Lib.cell_of_heap hh] at h1
  rw [Nat.add_zero, ← Array.getElem?_toList] at h1
  obtain ⟨n, hn⟩ := h8 _ (List.mem_of_getElem? h1)
  cases hn
/-- What is alive stays alive where the row of bytes grows. -/
theorem Rd.grown {w w2 : World} {v : Value} {A : Option Addr} {g : List Int} (hR : Rd .u32 w A g) (hg : w.grownBy w2 v.ownBlock) (h8 : Row8 w v) : Rd .u32 w2 A g := by
  intro hne
  obtain ⟨b, o, rfl, h⟩ := hR.not8 hne
  obtain ⟨b', o', e, hc⟩ := hR hne
  cases e
  refine ⟨b, o, rfl, fun j x hx => ?_⟩
  have h1 := hc j x hx
  refine hg.cell h1 (fun e => ?_)
  cases hh : w.heap[b]? with
  | none => simp [World.cell?, hh] at h1
  | some ob =>
    cases ob with
    | cells cs T fr => exact h cs T fr hh (h8 b cs T fr e.symm hh)
    | _ => simp [World.cell?, hh] at h1
theorem Has.grown {w0 w w2 : World} {l : List (Option Addr × Nat × Nat × Nat)} (H : Has w0 w l) {v : Value} (hg : w.grownBy w2 v.ownBlock) (h8 : Row8 w v) (hlow : ∀ k, v.ownBlock = some k → w0.heap.size ≤ k) : Has w0 w2 l :=
  ⟨H.b.grown hg H.b.size (fun i hi => hlow i hi), fun p hp => ⟨(H.r p hp).1.grown hg h8, (H.r p hp).2⟩⟩
end Go.Proofs.YtfcfejlffmddnaaGreatDoor
end
section
/- A row of bytes that is reversed in place (for the reference's Text). -/
namespace Go.Proofs.YtfcfejlffmddnaaGreatDoor
open Go.RowKit
set_option linter.unusedSimpArgs false
set_option linter.unusedVariables false
set_option linter.constructorNameAsVariable false

def slLen : Value → Nat
  | .slice _ k _ => k
  | _ => 0
/-- Bytes in a block, from its start on, that may be written. -/
def Wb (w : World) (g : Nat) (bs : List UInt8) : Prop := ∀ j x, bs[j]? = some x → w.cell? ⟨g, j, none⟩ = some (.int .u8 x.toNat) ∧ w.frozen? ⟨g, j, none⟩ = false
theorem Wb.set {w : World} {g : Nat} {bs : List UInt8} (h : Wb w g bs) (j : Nat) (x : UInt8) (v : Value) (hv : v = .int .u8 x.toNat) : Wb (w.setCell ⟨g, j, none⟩ v) g (bs.set j x) := by
  subst hv
  intro i y hy
  by_cases e : i = j
  · subst e
    have hi : i < bs.length := by have := (List.getElem?_eq_some_iff.1 hy).1; simpa using this
    rw [List.getElem?_set_self hi] at hy
    injection hy with hy; subst hy
    obtain ⟨h1, h2⟩ := h i _ (List.getElem?_eq_getElem hi)
    exact ⟨World.cell?_setCell_same _ _ _ h1, by rw [World.frozen?_setCell]; exact h2⟩
  · rw [List.getElem?_set_ne (fun h => e h.symm)] at hy
    obtain ⟨h1, h2⟩ := h i y hy
    exact ⟨by rw [World.cell?_setCell_other _ _ _ _ (by intro h; injection h with h1 h2; exact e h2.symm)]; exact h1, by rw [World.frozen?_setCell]; exact h2⟩
theorem OutC.wb {w wr : World} {ao : Option Addr} {k cap : Nat} {bs : List UInt8} (h : OutC w wr ao k cap bs) (hk : 0 < k) : ∃ g, ao = some ⟨g, 0, none⟩ ∧ w.heap.size ≤ g ∧ bs.length = k ∧ k ≤ cap ∧ cap ≤ 9223372036854775807 ∧ Wb wr g bs := by
  have hl : bs.length = k := by have := h.o.row.1; simpa [Lib.byteCells_length] using this
  rcases h.o.row.2 with ⟨h1, h2⟩ | ⟨g, c2, cur, h1, h2, h3, h4, h5, h6⟩
  · omega
  · injection h1 with e1 e2 e3
    subst e1 e3
    refine ⟨g, rfl, h2, hl, h4, by have := h5; simp only [maxLen] at this; omega, fun j x hx => ?_⟩
    have hc := h.o.row.cells (g := g) rfl j (.int .u8 x.toNat) (by simp [Lib.byteCells, hx])
    rw [Lib.add_plain, Nat.zero_add] at hc
    refine ⟨hc, ?_⟩
    simp [World.frozen?, h3]
/-- Both ends are exchanged already, i bytes at each. -/
def Rev (bs : List UInt8) (i : Nat) (cs : List UInt8) : Prop := cs.length = bs.length ∧ ∀ j, j < bs.length → cs[j]? = if j < i ∨ bs.length - i ≤ j then bs[bs.length - 1 - j]? else bs[j]?
theorem Rev.start (bs : List UInt8) : Rev bs 0 bs := ⟨rfl, fun j hj => by rw [if_neg (by omega)]⟩
theorem Rev.next {bs : List UInt8} {i : Nat} {cs : List UInt8} (h : Rev bs i cs) (hi : i < bs.length / 2) {x y : UInt8} (hx : cs[i]? = some x) (hy : cs[bs.length - 1 - i]? = some y) : Rev bs (i + 1) ((cs.set i y).set (bs.length - 1 - i) x) := by
  obtain ⟨h1, h2⟩ := h
  refine ⟨by simp [h1], fun j hj => ?_⟩
  have e1 := h2 i (by omega)
  have e2 := h2 (bs.length - 1 - i) (by omega)
  rw [if_neg (by omega)] at e1 e2
  rw [hx] at e1
  rw [hy] at e2
  by_cases c1 : j = bs.length - 1 - i
  · subst c1
    rw [List.getElem?_set_self (by simp [h1]; omega), if_pos (by omega), e1]
    congr 1; omega
  · rw [List.getElem?_set_ne (by omega)]
    by_cases c2 : j = i
    · subst c2
      rw [List.getElem?_set_self (by rw [h1]; omega), if_pos (by omega), e2]
    · rw [List.getElem?_set_ne (by omega), h2 j hj]
      by_cases c3 : j < i ∨ bs.length - i ≤ j
      · rw [if_pos c3, if_pos (by omega)]
      · rw [if_neg c3, if_neg (by omega)]
theorem Rev.done {bs : List UInt8} {i : Nat} {cs : List UInt8} (h : Rev bs i cs) (hi : i = bs.length / 2) : cs = bs.reverse := by
  obtain ⟨h1, h2⟩ := h
  apply List.ext_getElem?
  intro j
  by_cases hj : j < bs.length
  · rw [h2 j hj, List.getElem?_reverse hj]
    by_cases c : j < i ∨ bs.length - i ≤ j
    · rw [if_pos c]
    · rw [if_neg c]; congr 1; omega
  · rw [List.getElem?_eq_none (by omega), List.getElem?_eq_none (by simp; omega)]
end Go.Proofs.YtfcfejlffmddnaaGreatDoor
end
section
/- Contracts of the reference: Text. -/
namespace Go.Proofs.YtfcfejlffmddnaaGreatDoor
open Go.RowKit
set_option linter.unusedSimpArgs false
set_option linter.unusedVariables false
set_option linter.constructorNameAsVariable false

theorem conv_row (W : World) (g n cap : Nat) (bs : List UInt8) (hl : bs.length = n) (h : Wb W g bs) :
    (convert 60 9 (.slice (some ⟨g, 0, none⟩) n cap)).run Tryz.prog W = .ok (.string (S bs)) W := by
  have h := Lib.run_convert_whole (P := Tryz.prog) W 60 5 9 (by kernel_rfl) (by kernel_rfl) (by kernel_rfl) g 0 (S bs) (fun i hi => by
    rw [S_size] at hi
    have := (h i _ (List.getElem?_eq_getElem hi)).1
    rw [Nat.zero_add, this]
    rfl) cap
  rw [S_size, hl] at h
  exact h
theorem at0 (n : Nat) (h : n < 4294967296) : (dg n).getD 0 0 = (n : Int) := by
  have := dg_getD n 0
  rw [Nat.pow_zero, Nat.div_one, Nat.mod_eq_of_lt h] at this
  exact this
theorem rd_len_le {x : Nat} {bs : List UInt8} {v : Nat} (h : bs ++ rd v = rd x) : bs.length ≤ (rd x).length := by
  rw [← h, List.length_append]; omega
variable {w0 w : World} {l : List (Option Addr × Nat × Nat × Nat)}
theorem turn8 {wr w4 : World} {ao g' : Option Addr} {j cap cap' : Nat} {bs : List UInt8} {c : UInt8} {d : Nat} {T : TypeId} (HO : OutC w wr ao j cap bs) (H : Has w wr l) (hc : (c.toNat : Int) = 48 + (d : Int))
    (hgrow : (wr.alloc (.cells #[.int .u8 (48 + (d : Int))] T)).grownBy w4 (Value.slice ao j cap).ownBlock) (hown : w4.ownsRow w.heap.size 5 1 (.slice g' (j + 1) cap') (j + 1) (Lib.byteCells bs ++ [.int .u8 (48 + (d : Int))])) (h8 : Row8 w4 (.slice g' (j + 1) cap')) :
    OutC w w4 g' (j + 1) cap' (bs ++ [c]) ∧ Has w w4 l := by
  rw [← hc] at hgrow hown
  exact ⟨HO.next hgrow hown h8, (H.alloc _).grown hgrow (HO.r8.alloc HO.o.row _) (fun k hk => own_ge HO.o.row k hk)⟩
theorem half_of (j : Nat) : ∃ h, j / 2 = h ∧ 2 * h ≤ j ∧ (j : Int).tdiv 2 = (h : Int) := by
  refine ⟨j / 2, rfl, by omega, ?_⟩
  rw [Int.tdiv_eq_ediv_of_nonneg (by omega)]; omega
theorem mirror_of {j i h i2 : Nat} (hi : i < h) (hh : 2 * h ≤ j) (h2 : j - 1 - i = i2) : (j : Int) - 1 - (i : Int) = (i2 : Int) ∧ i2 < j ∧ i < j ∧ i ≠ i2 := by omega
set_option maxRecDepth 10000 in
set_option maxHeartbeats 4000000 in
theorem rtext_pos (H : Has w0 w l) (A1 : Option Addr) (k1 c1 x : Nat) (h1 : (A1, k1, c1, x) ∈ l) (b1 : k1 ≤ 1024) (hx : x ≠ 0) :
    Calls Tryz.prog 38 #[.slice A1 k1 c1] w fun e w' => e = .returned (.string (S (Lib.decDigits x))) ∧ Hid (Has w0 w' l) := by
  obtain ⟨i0, hi, hz0, hz1, hz2⟩ := info_u8
  have HH := Lib.hid H
  have hk0 : 0 < k1 := by
    have := H.len h1
    rcases Nat.eq_zero_or_pos k1 with h | h
    · rw [h] at this; exact absurd ((dg_nil_iff x).1 this) hx
    · exact h
  have HX := Lib.hid hx
  obtain ⟨N, hN⟩ : ∃ N, (rd x).length = N := ⟨_, rfl⟩
  have hNb : N ≤ 10240 := by
    rw [← hN, rd_dec hx, List.length_reverse]
    exact dec_size (by rw [H.len h1]; exact b1)
  have HN := Lib.hid hN
  have HS := Lib.hid (show Has w w ((A1, k1, c1, x) :: l) from H.rebase.keep (fun p hp => by
    rcases List.mem_cons.1 hp with rfl | hp
    · exact h1
    · exact hp))
  have hk00 : ((k1 : Int) == 0) = false := by simp; omega
  clear hN H h1 hx
  go_enter Tryz.func38, Tryz.ntmps38
  go_wp2_with fail
  go_loopw [0, 3, 4, 5, 6] (fun va vb vc vn vi wr => ∃ (A : Option Addr) (k c v : Nat) (ao : Option Addr) (j cap : Nat) (bs : List UInt8), va = .slice A k c ∧ vb = .slice ao j cap ∧ k ≤ 1024 ∧ j ≤ N ∧ Hid (bs ++ rd v = rd x) ∧ Hid (OutC w wr ao j cap bs) ∧ Hid (Has w wr ((A, k, c, v) :: l))) (fun va vb vc vn vi wr => N - slLen vb)
  case atStart => exact ⟨A1, k1, c1, x, none, 0, 0, [], rfl, rfl, b1, by omega, Lib.hid rfl, Lib.hid (OutC.start w), HS⟩
  case round =>
    obtain ⟨A, k, c, v, ao, j, cap, bs, rfl, rfl, hk, hjN, HB, HO, HA⟩ := hrel
    have hzq : Hid (slLen (.slice ao j cap) = j) := Lib.hid rfl
    by_cases hk1 : 0 < k
    · obtain ⟨q, hq⟩ : ∃ q, v / 1000000000 = q := ⟨_, rfl⟩
      obtain ⟨r, hr⟩ : ∃ r, v % 1000000000 = r := ⟨_, rfl⟩
      have hrl : r < 1000000000 := by omega
      have hv0 : v ≠ 0 := by
        intro h
        have := HA.out.len (.head _)
        rw [h, dg_zero] at this
        simp at this; omega
      have hvq : v = q * 1000000000 + r := by omega
      have hsh := rshort_h HA.out.rebase A k c v 1000000000 (.head _) (by omega) (by decide) (by decide)
      rw [hq, hr] at hsh
      have hr0 := at0 r (by omega)
      have HR0 := Lib.hid hr0
      have HV := Lib.hid (And.intro hv0 hvq)
      have hqk : (dg q).length ≤ 1024 := lenle (by rw [← hq]; exact Nat.div_le_self _ _) (by rw [HA.out.len (.head _)]; exact hk)
      have HQK := Lib.hid hqk
      have HSH := Lib.hid hsh
      clear hq hr hv0 hvq hsh hr0 hqk
      go_wp2_with fail
      refine HSH.out.mono ?_
      rintro e w2 ⟨A2, k2, c2, A3, k3, c3, rfl, hk2, hk3, H2⟩
      have hk24 : k2 ≤ 1024 := by rw [← H2.out.len (.head _)]; exact HQK.out
      have HB2 := Lib.hid H2.out.b
      obtain ⟨W, hW⟩ : ∃ W, w2.alloc (.cells #[.slice A2 k2 c2, .slice A3 k3 c3] 40) = W := ⟨_, rfl⟩
      have HBW : Hid (Below wr.heap.size wr W) := Lib.hid (by rw [← hW]; exact HB2.out.alloc HB2.out.size _)
      have HO2 := Lib.hid (HO.out.below HBW.out)
      have HA2 : Hid (Has w W ((A2, k2, c2, q) :: (A3, k3, c3, r) :: l)) := Lib.hid ⟨HA.out.b.trans (HBW.out.mono HA.out.b.size), fun p hp => by
        rw [← hW]
        refine (H2.out.alloc _).r p ?_
        rcases List.mem_cons.1 hp with rfl | hp
        · exact .head _
        · rcases List.mem_cons.1 hp with rfl | hp
          · exact .tail _ (.head _)
          · exact .tail _ (.tail _ (.tail _ hp))⟩
      have c0 : W.cell? ⟨w2.heap.size, 0, none⟩ = some (.slice A2 k2 c2) := by rw [← hW, Lib.cell_of_heap (World.alloc_heap_new _ _)]; rfl
      have c1' : W.cell? ⟨w2.heap.size, 1, none⟩ = some (.slice A3 k3 c3) := by rw [← hW, Lib.cell_of_heap (World.alloc_heap_new _ _)]; rfl
      have HW := Lib.hid hW
      have HD := Lib.hid (World.alloc_heap_new w2 (.cells #[.slice none 0 0, .slice none 0 0] 40))
      have C2 := Lib.hid (rat_h HA2.out A3 k3 c3 r 0 (.tail _ (.head _)) (by omega) r HR0)
      clear HSH H2 HB2 HO HBW
      go_wp2_with (refine wpList_store_row (o := { dst := none, op := .store 40 (.tmp 4) (.tmp 16), type := 0, pos := _, after := _, guard := none }) rfl 40 (.tmp 4) (.tmp 16) rfl w2.heap.size #[.slice A2 k2 c2, .slice A3 k3 c3] rfl rfl 40 #[.slice none 0 0, .slice none 0 0] HD.out (by kernel_rfl) rfl (by simp [Value.oneCell']) ?_; rw [World.setRow_alloc_new, HW.out])
      refine C2.out.mono ?_
      rintro e w3 ⟨rfl, rfl⟩
      clear C2
      go_wp2_with fail
      clear c0 c1'
      go_loopw [3, 5, 6] (fun vb vn vi wx => ∃ (i n : Nat) (ao : Option Addr) (jj cap : Nat) (bs : List UInt8), i ≤ 9 ∧ vi = .int .i64 i ∧ vn = .int .u64 n ∧ vb = .slice ao jj cap ∧ jj ≤ N ∧ Hid (n < 10 ^ (9 - i)) ∧ n < 1000000000 ∧ Hid (bs ++ rd (q * 10 ^ (9 - i) + n) = rd x) ∧ Hid (OutC w wx ao jj cap bs) ∧ Hid (Has w wx ((A2, k2, c2, q) :: l)) ∧ Hid (j < jj ∨ (i = 0 ∧ n = r ∧ j = jj))) (fun vb vn vi wx => 9 - (intOf vi).toNat)
      case atStart => exact ⟨0, r, ao, j, cap, bs, by omega, rfl, rfl, rfl, hjN, Lib.hid (by omega), hrl, Lib.hid (by rw [← HB.out, HV.out.2]), HO2, Lib.hid (HA2.out.keep (fun p hp => by
        rcases List.mem_cons.1 hp with rfl | hp
        · exact .head _
        · exact .tail _ (.tail _ hp))), Lib.hid (Or.inr ⟨rfl, rfl, rfl⟩)⟩
      case round =>
        obtain ⟨i, n, ao2, jj, cap2, bs2, hi9, rfl, rfl, rfl, hjj, HN9, hn9, HB3, HO3, HA3, HJ⟩ := hrel
        have hsz := HO3.out.o.sz
        by_cases hgo : i < 9 ∧ (0 < n ∨ 0 < k2)
        · obtain ⟨hlt, hgo⟩ := hgo
          have hne : q * 10 ^ (9 - i) + n ≠ 0 := by
            rcases hgo with h | h
            · omega
            · have hq := pos_of_len (HA3.out.len (.head _)) h
              have := Nat.mul_pos hq (show 0 < 10 ^ (9 - i) from Nat.pow_pos (by decide))
              omega
          have hrb := rd_block hlt hne
          obtain ⟨d, hd⟩ : ∃ d, n % 10 = d := ⟨_, rfl⟩
          obtain ⟨n', hn'⟩ : ∃ n', n / 10 = n' := ⟨_, rfl⟩
          have hn2 : n' < 10 ^ (9 - (i + 1)) := by
            have h1 := HN9.out
            rw [show 9 - i = (9 - (i + 1)) + 1 by omega, Nat.pow_succ] at h1
            omega
          rw [hd, hn'] at hrb
          have hd10 : d < 10 := by omega
          have hn9' : n' < 1000000000 := by omega
          obtain ⟨c, hc⟩ : ∃ c, UInt8.ofNat (48 + d) = c := ⟨_, rfl⟩
          have hcn : c.toNat = 48 + d := by rw [← hc]; exact u8_digit hd10
          have hcn2 : (c.toNat : Int) = 48 + (d : Int) := by omega
          have f1 : (n : Int).tmod 10 = (d : Int) := by rw [Int.tmod_eq_emod_of_nonneg (by omega)]; omega
          have f2 : (n : Int) % 10 = (d : Int) := by omega
          have f3 : (n : Int).tdiv 10 = (n' : Int) := by rw [Int.tdiv_eq_ediv_of_nonneg (by omega)]; omega
          have f4 : (n : Int) / 10 = (n' : Int) := by omega
          have f5 : IntKind.u8.wrap (48 + (d : Int)) = 48 + (d : Int) := by unfold IntKind.wrap; simp [IntKind.bits, IntKind.signed]; omega
          rw [hc] at hrb
          have HRB := Lib.hid hrb
          have HN2 := Lib.hid hn2
          have HCN := Lib.hid hcn2
          have hlen : bs2.length + 1 ≤ N := by
            have h1 := congrArg List.length HB3.out
            rw [hrb, List.length_append, List.length_cons, HN.out] at h1
            omega
          have hbl : bs2.length = jj := by have := HO3.out.o.row.1; simpa [Lib.byteCells_length] using this
          rw [hbl] at hlen
          clear hrb hne hd hn' hn2 hc hcn hcn2 hbl
          rcases (by omega : 0 < n ∨ (¬ 0 < n ∧ 0 < k2)) with hn0 | ⟨hn0, hk20⟩
          all_goals
            clear hgo
            go_wp2_with (at_builtin; refine wpList_append8s rfl _ _ 60 rfl w.heap.size 5 i0 Tryz.underlying60 hi hz0 hz1 hz2 _ _ _ rfl (HO3.out.o.row.alloc _) ⟨wr.heap.size, 0, none⟩ 1 1 [.int .u8 (48 + (d : Int))] rfl rfl (cell_one_new _ _ _) (by simp [Value.oneCell']) (by unfold maxLen; omega) (by omega) (by simp; omega) (HO3.out.r8.alloc HO3.out.o.row _) (u8s_bytes _) (fun y hy => ⟨_, by simpa using hy⟩) ?_; intro v' w4 hown' hgrow h8'; obtain ⟨g', cap', rfl⟩ := ownsRow_succ hown'; have HX4 := Lib.hid (turn8 HO3.out HA3.out HCN.out hgrow hown' h8'); clear hown' hgrow h8')
            go_roundw
            case rel => exact ⟨i + 1, n', _, jj + 1, cap', bs2 ++ [c], by omega, by go_num, rfl, rfl, hlen, HN2, hn9', Lib.hid (by rw [List.append_assoc, List.singleton_append, ← HRB.out]; exact HB3.out), Lib.hid HX4.out.1, Lib.hid HX4.out.2, Lib.hid (Or.inl (by have := HJ.out; omega))⟩
            case measure => simp [intOf]; omega
        · have hn00 : n = 0 ∧ (i = 9 ∨ ¬ 0 < k2) := by
            have h9 := HN9.out
            by_cases h : i < 9
            · exact ⟨by omega, Or.inr (by omega)⟩
            · obtain rfl : i = 9 := by omega
              exact ⟨by simpa using h9, Or.inl rfl⟩
          have hbq : bs2 ++ rd q = rd x := by
            have h1 := HB3.out
            rw [hn00.1, Nat.add_zero] at h1
            rcases hn00.2 with h | h
            · rw [h, Nat.sub_self, Nat.pow_zero, Nat.mul_one] at h1; exact h1
            · have hq0 : q = 0 := (dg_nil_iff q).1 (by rw [HA3.out.len (.head _)]; omega)
              rw [hq0, Nat.zero_mul] at h1
              rw [hq0]; exact h1
          have hjj2 : j < jj := by
            rcases HJ.out with h | ⟨h1, h2, h3⟩
            · exact h
            · exfalso
              have hq0 : q = 0 := by
                rcases hn00.2 with h | h
                · omega
                · exact (dg_nil_iff q).1 (by rw [HA3.out.len (.head _)]; omega)
              have := HV.out
              rw [hq0] at this
              omega
          have HBQ := Lib.hid hbq
          have hn0 : ¬ 0 < n := by omega
          rcases (by omega : ¬ i < 9 ∨ (i < 9 ∧ ¬ 0 < k2)) with h9 | ⟨h9, hk20⟩
          all_goals
            clear hgo hn00 hbq
            go_wp2_with fail
            exact ⟨⟨A2, k2, c2, q, ao2, jj, cap2, bs2, rfl, rfl, hk24, hjj, HBQ, HO3, HA3⟩, by simp only [slLen]; omega⟩
    · have hv0 : v = 0 := (dg_nil_iff v).1 (by rw [HA.out.len (.head _)]; omega)
      have hbs : bs = rd x := by
        have h1 := HB.out
        rw [hv0, rd_zero, List.append_nil] at h1
        exact h1
      have hj0 : 0 < j := by
        have h1 : bs.length = j := by have := HO.out.o.row.1; simpa [Lib.byteCells_length] using this
        rw [← h1, hbs, rd_pos HX.out]; simp
      obtain ⟨g, rfl, hwg, hjl, hjc, hcm, hwb⟩ := HO.out.wb hj0
      have hgb : g < wr.heap.size := (own_lt HO.out.o.row rfl).1
      obtain ⟨h, hh, hh2, f1⟩ := half_of j
      have HB5 := Lib.hid HO.out.o.bl
      have HWB := Lib.hid hwb
      have HJL := Lib.hid hjl
      have HBS := Lib.hid hbs
      have HH2 := Lib.hid hh
      have HF := Lib.hid f1
      clear hv0 hbs hwb hjl HO hh hi hz0 hz1 hz2 f1
      go_wp2_with fail
      go_loopw [7, 8] (fun v7 v8 wx => ∃ (i : Nat) (cs : List UInt8), i ≤ h ∧ v7 = .int .i64 i ∧ Hid (Rev bs i cs) ∧ Hid (Wb wx g cs) ∧ Hid (Below w.heap.size w wx)) (fun v7 v8 wx => h - (intOf v7).toNat)
      case atStart => exact ⟨0, bs, Nat.zero_le _, rfl, Lib.hid (Rev.start bs), HWB, HB5⟩
      case round =>
        obtain ⟨i, cs, hih, rfl, HR, HC, HB6⟩ := hrel
        by_cases hlt : i < h
        · obtain ⟨i2, hi2⟩ : ∃ i2 : Nat, j - 1 - i = i2 := ⟨_, rfl⟩
          obtain ⟨f3, hi2j, hij, hne⟩ := mirror_of hlt hh2 hi2
          have hcl : cs.length = j := by rw [HR.out.1, HJL.out]
          obtain ⟨a, ha⟩ : ∃ a, cs[i]? = some a := ⟨_, List.getElem?_eq_getElem (by rw [hcl]; exact hij)⟩
          obtain ⟨b, hb⟩ : ∃ b, cs[i2]? = some b := ⟨_, List.getElem?_eq_getElem (by rw [hcl]; exact hi2j)⟩
          obtain ⟨ca1, ca2⟩ := HC.out i a ha
          obtain ⟨cb1, cb2⟩ := HC.out i2 b hb
          have hn := HR.out.next (by rw [HJL.out, HH2.out]; exact hlt) ha (by rw [HJL.out, hi2]; exact hb)
          rw [HJL.out, hi2] at hn
          have HC1 := HC.out.set i b (.int .u8 b.toNat) rfl
          obtain ⟨cb3, cb4⟩ := HC1 i2 b (by rw [List.getElem?_set_ne hne]; exact hb)
          have HC2 := Lib.hid (HC1.set i2 a (.int .u8 a.toNat) rfl)
          have HB7 := Lib.hid ((HB6.out.setCell (p := ⟨g, i, none⟩) hwg (.int .u8 b.toNat)).setCell (p := ⟨g, i2, none⟩) hwg (.int .u8 a.toNat))
          have HN := Lib.hid hn
          have f1 := HF.out
          clear HC1 hn ha hb hi2 hcl
          go_wp2_with fail
          clear f1 f3
          go_roundw
          case rel => exact ⟨i + 1, _, by omega, by go_num, HN, HC2, HB7⟩
          case measure => simp [intOf]; omega
        · obtain rfl : i = h := by omega
          have hd := HR.out.done (by rw [HJL.out]; exact HH2.out.symm)
          have HCV := conv_row _ g j cap cs (by rw [HR.out.1, HJL.out]) HC.out
          have he : cs = Lib.decDigits x := by rw [hd, HBS.out, rd_dec HX.out, List.reverse_reverse]
          have HE := Lib.hid he
          have f1 := HF.out
          clear hd he
          go_wp2_with fail
          go_ret
          exact ⟨by rw [HE.out]; rfl, Lib.hid (HH.out.below HB6.out)⟩
end Go.Proofs.YtfcfejlffmddnaaGreatDoor
end
section
/- Contracts of the reference: Step. -/
namespace Go.Proofs.YtfcfejlffmddnaaGreatDoor
open Go.RowKit
set_option linter.unusedSimpArgs false
set_option linter.unusedVariables false
set_option linter.constructorNameAsVariable false

structure StepInv (a : List Int) (d i : Nat) (res : List Int) (c : Int) : Prop where
  len : res.length = i
  ok : dgs res
  c0 : 0 ≤ c
  c1 : c ≤ 9
  eq : vl res + BB i * c = vl (a.take i) * 10 + d
theorem StepInv.start (a : List Int) (d : Nat) (h : d ≤ 9) : StepInv a d 0 [] d := ⟨rfl, dgs_nil, by omega, by omega, by simp [vl_nil, BB_zero]⟩
theorem StepInv.step {a : List Int} {d i : Nat} {res : List Int} {c : Int} (ha : dgs a) (h : StepInv a d i res c) (x : Int) (hx : a[i]? = some x) (z : Int) (hz : z = x * 10 + c) : StepInv a d (i + 1) (res ++ [z % 4294967296]) (z / 4294967296) := by
  obtain ⟨h1, h2, h3, h4, h5⟩ := h
  obtain ⟨x0, x1⟩ := dgs_at ha hx
  refine ⟨by simp [h1], dgs_snoc h2 (by omega) (by omega), by omega, by omega, ?_⟩
  have hm := split_mul (BB i) z
  rw [vl_snoc, h1, BB_succ, vl_take_succ, List.getD_eq_getElem?_getD, hx, Option.getD_some, Int.add_mul]
  have e1 : BB i * z = BB i * c + BB i * x * 10 := by rw [hz, Int.mul_add, ← Int.mul_assoc]; omega
  omega
theorem StepInv.fin {x d : Nat} {res : List Int} {c : Int} (h : StepInv (dg x) d (dg x).length res c) : vl (res ++ [c]) = ((x * 10 + d : Nat) : Int) := by
  obtain ⟨h1, h2, h3, h4, h5⟩ := h
  rw [vl_snoc, h1, h5, vl_take_all _ _ (Nat.le_refl _), vl_dg]; omega
variable {w0 w : World} {l : List (Option Addr × Nat × Nat × Nat)}
set_option maxRecDepth 10000 in
set_option maxHeartbeats 2000000 in
theorem rstep_h (H : Has w0 w l) (A1 : Option Addr) (k1 c1 x d : Nat) (h1 : (A1, k1, c1, x) ∈ l) (b1 : k1 ≤ 10000) (hd9 : d ≤ 9) :
    Calls Tryz.prog 92 #[.slice A1 k1 c1, .int .u64 d] w (Made w0 l (x * 10 + d) 10001) := by
  have e1 := Lib.hid (H.len h1)
  obtain ⟨i0, hi, hz0, hz1, hz2⟩ := info_u32
  have HLEN : Hid ((dg (x * 10 + d)).length ≤ 10001) := Lib.hid (by
    have h3 := lt_of_len (Nat.le_of_eq e1.out)
    refine Nat.le_trans (len_of_lt (k := k1 + 1) ?_) (by omega)
    rw [Nat.pow_succ]; omega)
  have HH := Lib.hid H
  have M1 := Lib.hid h1
  have HR := Lib.hid (H.at h1).1
  have hb1 := b1
  clear H h1
  by_cases hk : k1 = 0
  case neg =>
    obtain ⟨b, o, rfl, hcc⟩ := HR.out (by intro h; rw [← List.length_eq_zero_iff, e1.out] at h; exact hk h)
    have HC := Lib.hid hcc
    clear hcc hk HR
    go_enter Tryz.func92, Tryz.ntmps92
    go_wp2_with fail
    go_loopw [5, 6, 7, 8] (fun vo vc vi vs wr => ∃ (i : Nat) (ao : Option Addr) (cap : Nat) (res : List Int) (cy : Int), i ≤ k1 ∧ vi = .int .i64 i ∧ vo = .slice ao i cap ∧ vc = .int .u64 cy ∧ 0 ≤ cy ∧ cy ≤ 9 ∧ Hid (StepInv (dg x) d i res cy) ∧ Hid (Out w wr ao i cap res)) (fun vo vc vi vs wr => k1 - (intOf vi).toNat)
    case atStart => exact ⟨0, none, 0, [], d, by omega, rfl, rfl, rfl, by omega, by omega, Lib.hid (StepInv.start _ _ hd9), Lib.hid (Out.start w)⟩
    case round =>
      obtain ⟨i, ao, cap, res, cy, hiN, rfl, rfl, rfl, cy0, cy1, HA, HO⟩ := hrel
      by_cases hlt : i < k1
      · obtain ⟨xi, hxi⟩ : ∃ z, (dg x)[i]? = some z := ⟨_, List.getElem?_eq_getElem (by rw [e1.out]; exact hlt)⟩
        obtain ⟨y0, y1⟩ := dgs_at (dgs_dg x) hxi
        have hcx := HC.out i xi hxi
        have hlt1 := World.block_lt_of_cell? w _ hcx
        rw [← HO.out.bl.cell (p := ⟨b, o + i, none⟩) hlt1] at hcx
        have hA := StepInv.step (dgs_dg x) HA.out xi hxi (xi * 10 + cy) rfl
        have hc3 := hA.c1
        have hc4 := hA.c0
        have HAS := Lib.hid hA
        have hsz := HO.out.sz
        clear hA hxi
        go_wp2_with (at_builtin; refine wpList_append_own _ rfl _ _ 23 rfl w.heap.size 57 i0 (.int .u32 0) 1 4 Tryz.underlying23 hi hz0 hz1 hz2 rfl (by decide) _ _ _ rfl (HO.out.row.alloc _) ⟨wr.heap.size, 0, none⟩ 1 1 [.int .u32 ((xi * 10 + cy) % 4294967296)] rfl rfl (cell_one_new _ _ _) (by simp [Value.oneCell']) (by unfold maxLen; omega) (by omega) (by simp; omega) ?_; intro v' w2 hown' hgrow _; have Hg' := Lib.hid (show (wr.alloc (.cells #[.int .u32 ((xi * 10 + cy) % 4294967296)] 57)).grownBy w2 (Value.slice ao i cap).ownBlock from hgrow); clear hgrow; obtain ⟨g', cap', rfl⟩ := ownsRow_succ hown'; have HO2 := Lib.hid (HO.out.next Hg'.out hown'); clear hown' Hg')
        go_roundw
        case rel => exact ⟨i + 1, _, cap', _, _, by omega, by go_num, rfl, rfl, hc4, hc3, HAS, HO2⟩
        case measure => simp [intOf]; omega
      · obtain rfl : k1 = i := by omega
        have hsz := HO.out.sz
        have hfin := StepInv.fin (show StepInv (dg x) d (dg x).length res cy by rw [e1.out]; exact HA.out)
        have hd := dgs_snoc HA.out.ok cy0 (by omega)
        have hlr : (res ++ [cy]).length = k1 + 1 := by rw [List.length_append, HA.out.len]; rfl
        have f2 : cy % 4294967296 = cy := by omega
        have HT := fun (w2 : World) (ao' : Option Addr) (cap' : Nat) (ho : Out w w2 ao' (k1 + 1) cap' (res ++ [cy])) => ho.trim HH.out hlr (by omega) hd (x * 10 + d) hfin 10001 HLEN.out
        have HTT := Lib.hid HT
        clear HT hfin hd hlr
        go_wp2_with (at_builtin; refine wpList_append_own _ rfl _ _ 23 rfl w.heap.size 57 i0 (.int .u32 0) 1 4 Tryz.underlying23 hi hz0 hz1 hz2 rfl (by decide) _ _ _ rfl (HO.out.row.alloc _) ⟨wr.heap.size, 0, none⟩ 1 1 [.int .u32 cy] rfl rfl (cell_one_new _ _ _) (by simp [Value.oneCell']) (by unfold maxLen; omega) (by omega) (by simp; omega) ?_; intro v' w2 hown' hgrow _; have Hg' := Lib.hid (show (wr.alloc (.cells #[.int .u32 cy] 57)).grownBy w2 (Value.slice ao k1 cap).ownBlock from hgrow); clear hgrow; obtain ⟨g', cap', rfl⟩ := ownsRow_succ hown'; have HO2 := Lib.hid (HO.out.next Hg'.out hown'); clear hown' Hg')
        refine (HTT.out _ _ _ HO2.out).mono ?_
        rintro e w' ⟨A', k', c', n', rfl, hn, hk, h⟩
        have HF := Lib.hid h
        clear h
        go_wp2_with fail
        go_ret
        exact ⟨A', k', c', n', rfl, hn, hk, HF.out⟩
  case pos =>
    subst hk
    have HX : Hid (x = 0) := Lib.hid ((dg_nil_iff x).1 e1.out)
    have HB2 := fun (w2 : World) (ao' : Option Addr) (cap' : Nat) (ho : Out w w2 ao' (0 + 1) cap' ([] ++ [(d : Int)])) => ho.trim HH.out rfl (by omega) (by intro y hy; simp at hy; omega) (x * 10 + d) (by rw [HX.out]; simp [vl]) 10001 HLEN.out
    have HTT := Lib.hid HB2
    have f2 : (d : Int) % 4294967296 = d := by omega
    clear HB2
    go_enter Tryz.func92, Tryz.ntmps92
    go_wp2_with fail
    go_loopw [5, 6, 7, 8] (fun vo vc vi vs wr => vi = .int .i64 0 ∧ vo = .slice none 0 0 ∧ vc = .int .u64 d ∧ wr = w) (fun vo vc vi vs wr => 0)
    case atStart => exact ⟨rfl, rfl, rfl, rfl⟩
    case round =>
      obtain ⟨rfl, rfl, rfl, rfl⟩ := hrel
      have HO := Lib.hid (Out.start wr)
      go_wp2_with (at_builtin; refine wpList_append_own _ rfl _ _ 23 rfl wr.heap.size 57 i0 (.int .u32 0) 1 4 Tryz.underlying23 hi hz0 hz1 hz2 rfl (by decide) _ _ _ rfl (HO.out.row.alloc _) ⟨wr.heap.size, 0, none⟩ 1 1 [.int .u32 d] rfl rfl (cell_one_new _ _ _) (by simp [Value.oneCell']) (by unfold maxLen; omega) (by omega) (by simp) ?_; intro v' w2 hown' hgrow _; have Hg' := Lib.hid (show (wr.alloc (.cells #[.int .u32 d] 57)).grownBy w2 (Value.slice none 0 0).ownBlock from hgrow); clear hgrow; obtain ⟨g', cap', rfl⟩ := ownsRow_succ hown'; have HO2 := Lib.hid (HO.out.next Hg'.out hown'); clear hown' Hg')
      refine (HTT.out _ _ _ HO2.out).mono ?_
      rintro e w' ⟨A', k', c', n', rfl, hn, hk, h⟩
      have HF := Lib.hid h
      clear h
      go_wp2_with fail
      go_ret
      exact ⟨A', k', c', n', rfl, hn, hk, HF.out⟩
end Go.Proofs.YtfcfejlffmddnaaGreatDoor
end
section
/- Contracts of the reference: Parse. -/
namespace Go.Proofs.YtfcfejlffmddnaaGreatDoor
open Go.RowKit
set_option linter.unusedSimpArgs false
set_option linter.unusedVariables false
set_option linter.constructorNameAsVariable false

variable {w0 w : World} {l : List (Option Addr × Nat × Nat × Nat)}
theorem ECell2.new (w : World) (T : TypeId) : DCell (w.alloc (.cells #[.slice Option.none 0 0, .int .i64 0] T)) w.heap.size (.slice Option.none 0 0) (.int .i64 0) :=
  ⟨⟨T, World.alloc_heap_new w _⟩, (fun n => by simp), (fun n => by simp)⟩
theorem has_cell2 (H : Has w0 w l) {w1 W : World} (T : TypeId) (hw : w.alloc (.cells #[.slice Option.none 0 0, .int .i64 0] T) = w1) {l' : List (Option Addr × Nat × Nat × Nat)} (HW : Has w1 W l') (cs : Array Value) : Has w0 (W.setRow w.heap.size cs) l' := by
  have hs : w1.heap.size = w.heap.size + 1 := by rw [← hw]; simp
  have hD : DCell W w.heap.size (.slice Option.none 0 0) (.int .i64 0) := DCell.below (by rw [← hw]; exact ECell2.new w T) (by omega) HW.b
  have hb : Below w0.heap.size w0 W := H.b.trans (((show Below w.heap.size w w1 by rw [← hw]; exact (Below.refl _ w).alloc (Nat.le_refl _) _).trans (HW.b.mono (by omega))).mono H.b.size)
  exact ⟨below_setRow hb H.b.size cs, fun p hp => ⟨(HW.r p hp).1.setRow hD cs, (HW.r p hp).2⟩⟩
theorem DCell.row2 {w W w1 : World} (T : TypeId) (hw : w.alloc (.cells #[.slice Option.none 0 0, .int .i64 0] T) = w1) {l' : List (Option Addr × Nat × Nat × Nat)} (HW : Has w1 W l') : W.heap[w.heap.size]? = some (.cells #[.slice Option.none 0 0, .int .i64 0] T (0, 0)) := by
  have hs : w1.heap.size = w.heap.size + 1 := by rw [← hw]; simp
  rw [HW.b.block _ (by omega), ← hw]
  exact World.alloc_heap_new w _
/-- What the reference's Parse answers. -/
def RPar (w0 : World) (l : List (Option Addr × Nat × Nat × Nat)) (x : Int) (n : Nat) (e : Ending) (w' : World) : Prop :=
  ∃ A k c, e = .returned (.agg #[.slice A k c, .int .i64 x]) ∧ k ≤ 1024 ∧ Hid (Has w0 w' ((A, k, c, n) :: l))
set_option maxRecDepth 10000 in
set_option maxHeartbeats 2000000 in
theorem rparse_long (H : Has w0 w l) (s : ByteArray) (hs : 20000 < s.size) (hm : s.size ≤ 9223372036854775807) :
    Calls Tryz.prog 37 #[.string s] w (RPar w0 l 2 0) := by
  have HH := Lib.hid H
  obtain ⟨w1, hw1⟩ : ∃ w1, w.alloc (.cells #[.slice none 0 0, .int .i64 0] 49) = w1 := ⟨_, rfl⟩
  have H1 : Hid (Has w1 w1 l) := Lib.hid (by rw [← hw1]; exact (HH.out.alloc _).rebase)
  have HW1 := Lib.hid hw1
  have HG := DCell.row2 49 HW1.out H1.out
  clear H
  go_enter Tryz.func37, Tryz.ntmps37
  go_wp2_with (refine wpList_store_row (o := { dst := none, op := .store 49 (.tmp 2) (.tmp 9), type := 0, pos := _, after := _, guard := none }) rfl 49 (.tmp 2) (.tmp 9) rfl w.heap.size #[.slice none 0 0, .int .i64 2] rfl rfl 49 #[.slice none 0 0, .int .i64 0] HG (by kernel_rfl) rfl (by simp [Value.oneCell']) ?_)
  refine bodyPost_ret (results_cell_row rfl _ _ w.heap.size 49 _ (0, 0) _ rfl (setRow_heap _ _ _ _ _ _ HG) Tryz.underlying49 rfl (by kernel_rfl)) rfl ?_
  exact ⟨none, 0, 0, rfl, by decide, Lib.hid (has_cell2 HH.out 49 HW1.out H1.out #[.slice none 0 0, .int .i64 2]).zero⟩
end Go.Proofs.YtfcfejlffmddnaaGreatDoor
end
section
/- Contracts of the reference: Parse, texts that are no numerals. -/
namespace Go.Proofs.YtfcfejlffmddnaaGreatDoor
open Go.RowKit
set_option linter.unusedSimpArgs false
set_option linter.unusedVariables false
set_option linter.constructorNameAsVariable false

variable {w0 w : World} {l : List (Option Addr × Nat × Nat × Nat)}
set_option maxRecDepth 10000 in
set_option maxHeartbeats 2000000 in
theorem rparse_empty (H : Has w0 w l) (s : ByteArray) (hs : s.size = 0) :
    Calls Tryz.prog 37 #[.string s] w (RPar w0 l 6 0) := by
  obtain rfl := empty_str hs
  have HH := Lib.hid H
  obtain ⟨w1, hw1⟩ : ∃ w1, w.alloc (.cells #[.slice none 0 0, .int .i64 0] 49) = w1 := ⟨_, rfl⟩
  have H1 : Hid (Has w1 w1 l) := Lib.hid (by rw [← hw1]; exact (HH.out.alloc _).rebase)
  have HW1 := Lib.hid hw1
  have HG := DCell.row2 49 HW1.out H1.out
  clear H hs
  go_enter Tryz.func37, Tryz.ntmps37
  go_wp2_with (refine wpList_store_row (o := { dst := none, op := .store 49 (.tmp 2) (.tmp 22), type := 0, pos := _, after := _, guard := none }) rfl 49 (.tmp 2) (.tmp 22) rfl w.heap.size #[.slice none 0 0, .int .i64 6] rfl rfl 49 #[.slice none 0 0, .int .i64 0] HG (by kernel_rfl) rfl (by simp [Value.oneCell']) ?_)
  refine bodyPost_ret (results_cell_row rfl _ _ w.heap.size 49 _ (0, 0) _ rfl (setRow_heap _ _ _ _ _ _ HG) Tryz.underlying49 rfl (by kernel_rfl)) rfl ?_
  exact ⟨none, 0, 0, rfl, by decide, Lib.hid (has_cell2 HH.out 49 HW1.out H1.out #[.slice none 0 0, .int .i64 6]).zero⟩
set_option maxRecDepth 10000 in
set_option maxHeartbeats 2000000 in
theorem rparse_zero (H : Has w0 w l) (s : ByteArray) (hs : s.size ≤ 20000) (hs1 : 1 < s.size) (he : s.toList.isEmpty = false) (h0 : 0 < s.size) (hc : s[0].toNat = 48) :
    Calls Tryz.prog 37 #[.string s] w (RPar w0 l 6 0) := by
  have HH := Lib.hid H
  obtain ⟨w1, hw1⟩ : ∃ w1, w.alloc (.cells #[.slice none 0 0, .int .i64 0] 49) = w1 := ⟨_, rfl⟩
  have H1 : Hid (Has w1 w1 l) := Lib.hid (by rw [← hw1]; exact (HH.out.alloc _).rebase)
  have HW1 := Lib.hid hw1
  have HG := DCell.row2 49 HW1.out H1.out
  clear H
  go_enter Tryz.func37, Tryz.ntmps37
  go_wp2_with (refine wpList_store_row (o := { dst := none, op := .store 49 (.tmp 2) (.tmp 22), type := 0, pos := _, after := _, guard := none }) rfl 49 (.tmp 2) (.tmp 22) rfl w.heap.size #[.slice none 0 0, .int .i64 6] rfl rfl 49 #[.slice none 0 0, .int .i64 0] HG (by kernel_rfl) rfl (by simp [Value.oneCell']) ?_)
  refine bodyPost_ret (results_cell_row rfl _ _ w.heap.size 49 _ (0, 0) _ rfl (setRow_heap _ _ _ _ _ _ HG) Tryz.underlying49 rfl (by kernel_rfl)) rfl ?_
  exact ⟨none, 0, 0, rfl, by decide, Lib.hid (has_cell2 HH.out 49 HW1.out H1.out #[.slice none 0 0, .int .i64 6]).zero⟩
end Go.Proofs.YtfcfejlffmddnaaGreatDoor
end
section
/- Contracts of the reference: Parse, the loops. -/
namespace Go.Proofs.YtfcfejlffmddnaaGreatDoor
open Go.RowKit
set_option linter.unusedSimpArgs false
set_option linter.unusedVariables false
set_option linter.constructorNameAsVariable false

variable {w0 w : World} {l : List (Option Addr × Nat × Nat × Nat)}
theorem L_at (s : ByteArray) (i : Nat) (h : i < s.size) : (L s)[i]? = some s[i] := by
  rw [L, Array.getElem?_toList]
  exact Array.getElem?_eq_getElem h
theorem all_take_succ {s : List UInt8} {i : Nat} {c : UInt8} (hc : s[i]? = some c) (h : (s.take i).all isDg = true) (hd : isDg c = true) : (s.take (i + 1)).all isDg = true := by
  rw [List.take_add_one, List.all_append, h, hc]; simp [hd]
theorem not_all {s : List UInt8} {i : Nat} {c : UInt8} (hc : s[i]? = some c) (hd : isDg c = false) : s.all isDg = false := by
  rw [← Bool.not_eq_true]
  intro h
  have := List.all_eq_true.1 h c (List.mem_of_getElem? hc)
  rw [hd] at this; cases this
theorem vd_take_le (s : List UInt8) (i : Nat) : vd (s.take i) ≤ vd s := by
  have h := vd_append (s.take i) (s.drop i)
  rw [List.take_append_drop] at h
  rw [h]
  have : 0 < 10 ^ (s.drop i).length := Nat.pow_pos (by decide)
  have := Nat.le_mul_of_pos_right (vd (s.take i)) this
  omega
set_option maxRecDepth 10000 in
set_option maxHeartbeats 4000000 in
theorem rparse_loops (H : Has w0 w l) (s : ByteArray) (hs : s.size ≤ 20000) (he : s.toList.isEmpty = false) (h0 : 0 < s.size) (z : Nat) (hz : s[0].toNat = z) (hzz : (((z : Int) == 48) = false) ∨ (((z : Int) == 48) = true ∧ ¬ 1 < s.size)) (x : Int) (n : Nat)
    (hx : Hid ((if (L s).all isDg = true then giv (vd (L s)) else (6, 0)) = (x, n))) :
    Calls Tryz.prog 37 #[.string s] w (RPar w0 l x n) := by
  have HH := Lib.hid H
  obtain ⟨w1, hw1⟩ : ∃ w1, w.alloc (.cells #[.slice none 0 0, .int .i64 0] 49) = w1 := ⟨_, rfl⟩
  have H1 : Hid (Has w1 w1 l) := Lib.hid (by rw [← hw1]; exact (HH.out.alloc _).rebase)
  have HW1 := Lib.hid hw1
  have HG := DCell.row2 49 HW1.out H1.out
  have HL := Lib.hid (L_at s)
  have HLL := Lib.hid (L_length s)
  clear H
  rcases hzz with hzz | ⟨hzz, hz1⟩
  all_goals
    go_enter Tryz.func37, Tryz.ntmps37
    go_wp2_with fail
    go_loop [3] (fun v => ∃ i : Nat, i ≤ s.size ∧ v = .int .i64 i ∧ Hid (((L s).take i).all isDg = true)) (fun v => s.size - (intOf v).toNat)
    case atStart => exact ⟨0, Nat.zero_le _, rfl, Lib.hid (by simp)⟩
    case round =>
      obtain ⟨i, hi, rfl, HA⟩ := hrel
      by_cases hlt : i < s.size
      · obtain ⟨c, hc⟩ : ∃ c : Nat, s[i].toNat = c := ⟨_, rfl⟩
        have hcl := HL.out i hlt
        by_cases hd : 48 ≤ c ∧ c ≤ 57
        · have d1 : decide ((c : Int) < 48) = false := decide_eq_false (by omega)
          have d2 : decide ((57 : Int) < (c : Int)) = false := decide_eq_false (by omega)
          have HN := Lib.hid (all_take_succ hcl HA.out (by unfold isDg; rw [hc]; exact decide_eq_true hd))
          have hd1 : ¬ c < 48 := by omega
          have hd2 : ¬ 57 < c := by omega
          clear hcl hd
          go_wp2_with fail
          go_round
          case rel => exact ⟨i + 1, by omega, by go_num, HN⟩
          case measure => simp [intOf]; omega
        · obtain ⟨rfl, rfl⟩ : x = 6 ∧ n = 0 := by
            have h1 := hx.out
            rw [not_all hcl (by unfold isDg; rw [hc]; exact decide_eq_false hd)] at h1
            simp at h1
            exact ⟨h1.1.symm, h1.2.symm⟩
          clear hcl
          rcases (by omega : c < 48 ∨ (¬ c < 48 ∧ 57 < c)) with h | ⟨h, h'⟩
          all_goals
            go_wp2_with (refine wpList_store_row (o := { dst := none, op := .store 49 (.tmp 2) (.tmp 39), type := 0, pos := _, after := _, guard := none }) rfl 49 (.tmp 2) (.tmp 39) rfl w.heap.size #[.slice none 0 0, .int .i64 6] rfl rfl 49 #[.slice none 0 0, .int .i64 0] HG (by kernel_rfl) rfl (by simp [Value.oneCell']) ?_)
            refine bodyPost_ret (results_cell_row rfl _ _ w.heap.size 49 _ (0, 0) _ rfl (setRow_heap _ _ _ _ _ _ HG) Tryz.underlying49 rfl (by kernel_rfl)) rfl ?_
            exact ⟨none, 0, 0, rfl, by decide, Lib.hid (has_cell2 HH.out 49 HW1.out H1.out #[.slice none 0 0, .int .i64 6]).zero⟩
      · obtain rfl : i = s.size := by omega
        have hall : (L s).all isDg = true := by have := HA.out; rwa [List.take_of_length_le (by rw [HLL.out]; exact Nat.le_refl _)] at this
        have hx2 := hx.out
        rw [if_pos hall] at hx2
        have HX := Lib.hid hx2
        have HALL := Lib.hid hall
        clear hx2 hx hall
        go_wp2_with fail
        go_loopw [4, 5] (fun va vi wr => ∃ (i : Nat) (A : Option Addr) (k c : Nat), i ≤ s.size ∧ vi = .int .i64 i ∧ va = .slice A k c ∧ k ≤ 1024 ∧ Hid (Has w1 wr ((A, k, c, vd ((L s).take i)) :: l))) (fun va vi wr => s.size - (intOf vi).toNat)
        case atStart => exact ⟨0, none, 0, 0, Nat.zero_le _, rfl, rfl, by decide, Lib.hid H1.out.zero⟩
        case round =>
          obtain ⟨i, A, k, cc, hi2, rfl, rfl, hk, HX2⟩ := hrel
          by_cases hlt : i < s.size
          · obtain ⟨c, hc⟩ : ∃ c : Nat, s[i].toNat = c := ⟨_, rfl⟩
            have hcl := HL.out i hlt
            have hdg := List.all_eq_true.1 HALL.out _ (List.mem_of_getElem? hcl)
            have hcb : 48 ≤ c ∧ c ≤ 57 := by unfold isDg at hdg; rw [hc] at hdg; exact of_decide_eq_true hdg
            obtain ⟨d, hd⟩ : ∃ d, c - 48 = d := ⟨_, rfl⟩
            have f1 : IntKind.u8.wrap ((c : Int) - 48) = (d : Int) := by unfold IntKind.wrap; simp [IntKind.bits, IntKind.signed]; omega
            have f2 : (c : Int) - 48 = (d : Int) := by omega
            have f3 : IntKind.u64.wrap (d : Int) = (d : Int) := by unfold IntKind.wrap; simp [IntKind.bits, IntKind.signed]; omega
            have hv : Hid (vd ((L s).take i) * 10 + d = vd ((L s).take (i + 1))) := Lib.hid (by
              rw [List.take_add_one, hcl]
              show _ = vd ((L s).take i ++ [s[i]])
              rw [vd_snoc, hc, hd])
            have hd9 : d ≤ 9 := by omega
            clear hcl hdg hd
            go_wp2_with fail
            refine (rstep_h HX2.out A k cc (vd ((L s).take i)) d (.head _) (by omega) hd9).mono ?_
            rintro e w2 ⟨A', k', c', n', rfl, hn', hk', h⟩
            rw [hn'.out, hv.out] at h
            have H3 := Lib.hid (h.keep (l' := (A', k', c', vd ((L s).take (i + 1))) :: l) (fun p hp => by
              rcases List.mem_cons.1 hp with rfl | hp
              · exact .head _
              · exact .tail _ (.tail _ hp)))
            clear h hn'
            by_cases hf : k' ≤ 1024
            · go_wp2_with fail
              refine (fits_calls A' k' c' _ true (Lib.hid (decide_eq_true hf))).mono ?_
              rintro e w' ⟨rfl, rfl⟩
              go_wp2_with fail
              go_roundw
              case rel => exact ⟨i + 1, A', k', c', by omega, by go_num, rfl, hf, H3⟩
              case measure => simp [intOf]; omega
            · obtain ⟨rfl, rfl⟩ : x = 2 ∧ n = 0 := by
                have h1 := HX.out
                rw [giv_no (fun h2 => hf (by rw [← H3.out.len (.head _)]; exact lenle (vd_take_le _ _) h2))] at h1
                simp at h1
                exact ⟨h1.1.symm, h1.2.symm⟩
              have HG2 := DCell.row2 49 HW1.out H3.out
              go_wp2_with fail
              refine (fits_calls A' k' c' _ false (Lib.hid (decide_eq_false hf))).mono ?_
              rintro e w' ⟨rfl, rfl⟩
              go_wp2_with (refine wpList_store_row (o := { dst := none, op := .store 49 (.tmp 2) (.tmp 56), type := 0, pos := _, after := _, guard := none }) rfl 49 (.tmp 2) (.tmp 56) rfl w.heap.size #[.slice none 0 0, .int .i64 2] rfl rfl 49 #[.slice none 0 0, .int .i64 0] HG2 (by kernel_rfl) rfl (by simp [Value.oneCell']) ?_)
              refine bodyPost_ret (results_cell_row rfl _ _ w.heap.size 49 _ (0, 0) _ rfl (setRow_heap _ _ _ _ _ _ HG2) Tryz.underlying49 rfl (by kernel_rfl)) rfl ?_
              exact ⟨none, 0, 0, rfl, by decide, Lib.hid ((has_cell2 HH.out 49 HW1.out H3.out #[.slice none 0 0, .int .i64 2]).keep (l' := l) (fun p hp => .tail _ hp)).zero⟩
          · obtain rfl : i = s.size := by omega
            have hvl : (L s).take s.size = L s := List.take_of_length_le (by rw [HLL.out]; exact Nat.le_refl _)
            have H3 : Hid (Has w1 wr ((A, k, cc, vd (L s)) :: l)) := Lib.hid (by have := HX2.out; rwa [hvl] at this)
            obtain ⟨rfl, rfl⟩ : x = 0 ∧ n = vd (L s) := by
              have h1 := HX.out
              rw [giv_ok (by rw [H3.out.len (.head _)]; exact hk)] at h1
              simp at h1
              exact ⟨h1.1.symm, h1.2.symm⟩
            have HG2 := DCell.row2 49 HW1.out H3.out
            clear hvl HX
            go_wp2_with (refine wpList_store_row (o := { dst := none, op := .store 49 (.tmp 2) (.tmp 58), type := 0, pos := _, after := _, guard := none }) rfl 49 (.tmp 2) (.tmp 58) rfl w.heap.size #[.slice A k cc, .int .i64 0] rfl rfl 49 #[.slice none 0 0, .int .i64 0] HG2 (by kernel_rfl) rfl (by simp [Value.oneCell']) ?_)
            refine bodyPost_ret (results_cell_row rfl _ _ w.heap.size 49 _ (0, 0) _ rfl (setRow_heap _ _ _ _ _ _ HG2) Tryz.underlying49 rfl (by kernel_rfl)) rfl ?_
            exact ⟨A, k, cc, rfl, hk, Lib.hid (has_cell2 HH.out 49 HW1.out H3.out #[.slice A k cc, .int .i64 0])⟩
end Go.Proofs.YtfcfejlffmddnaaGreatDoor
end
section
/- Contracts of the reference: Parse, whole. -/
namespace Go.Proofs.YtfcfejlffmddnaaGreatDoor
open Go.RowKit
set_option linter.unusedSimpArgs false
set_option linter.unusedVariables false
set_option linter.constructorNameAsVariable false

variable {w0 w : World} {l : List (Option Addr × Nat × Nat × Nat)}
theorem rparse_h (H : Has w0 w l) (s : ByteArray) (hm : s.size ≤ 9223372036854775807) (x : Int) (n : Nat) (hx : Hid (parO (L s) = (x, n))) :
    Calls Tryz.prog 37 #[.string s] w (RPar w0 l x n) := by
  have hp := hx.out
  unfold parO at hp
  rw [L_length] at hp
  by_cases h1 : 20000 < s.size
  · rw [if_pos h1] at hp
    cases hp
    exact rparse_long H s h1 hm
  rw [if_neg h1] at hp
  by_cases h2 : s.size = 0
  · have hl : L s = [] := List.eq_nil_of_length_eq_zero (by rw [L_length]; exact h2)
    rw [hl] at hp
    have : formB [] = false := by decide
    rw [this] at hp
    cases hp
    exact rparse_empty H s h2
  have h0 : 0 < s.size := by omega
  have he : s.toList.isEmpty = false := by
    rw [toList_L]
    cases h : L s with
    | nil => exact absurd (by have := L_length s; rw [h] at this; exact this.symm) h2
    | cons a b => rfl
  have hat := L_at s 0 h0
  have hh : (L s).head? = some s[0] := by rw [List.head?_eq_getElem?]; exact hat
  have hne : L s ≠ [] := fun h => by rw [h] at hat; cases hat
  by_cases h3 : s[0] = 48
  · by_cases h4 : 1 < s.size
    · have hf : formB (L s) = false := by
        unfold formB
        have : L s ≠ [48] := fun h => by have := L_length s; rw [h] at this; simp at this; omega
        rw [decide_eq_false this, hh, h3]
        simp
      rw [hf] at hp
      cases hp
      exact rparse_zero H s (by omega) h4 he h0 (by rw [h3]; rfl)
    · have hl : L s = [48] := by
        have hlen := L_length s
        cases h : L s with
        | nil => exact absurd h hne
        | cons a b =>
          rw [h] at hh hlen
          have : b = [] := List.eq_nil_of_length_eq_zero (by simp at hlen; omega)
          simp at hh
          rw [this, hh, h3]
      have hf : formB (L s) = (L s).all isDg := by rw [hl]; decide
      rw [hf] at hp
      exact rparse_loops H s (by omega) he h0 48 (by rw [h3]; rfl) (Or.inr ⟨by decide, h4⟩) x n (Lib.hid hp)
  · have hf : formB (L s) = (L s).all isDg := by
      unfold formB
      rw [decide_eq_true hne, hh, decide_eq_true (show some s[0] ≠ some 48 from fun h => h3 (Option.some.inj h))]
      simp
    rw [hf] at hp
    exact rparse_loops H s (by omega) he h0 s[0].toNat rfl (Or.inl (by
      apply beq_eq_false_iff_ne.2
      intro h
      exact h3 (UInt8.toNat_inj.1 (by show s[0].toNat = 48; omega)))) x n (Lib.hid hp)
end Go.Proofs.YtfcfejlffmddnaaGreatDoor
end
section
/- The law NatTexts. -/
namespace Go.Proofs.YtfcfejlffmddnaaGreatDoor
open Go.RowKit
set_option linter.unusedSimpArgs false
set_option linter.unusedVariables false
set_option linter.constructorNameAsVariable false

variable {w0 w : World} {l : List (Option Addr × Nat × Nat × Nat)}
theorem text_at (H : Hid (Has w0 w l)) (hT : Hid (Tabs w0)) (A : Option Addr) (k c X : Nat) (hm : (A, k, c, X) ∈ l) (hk : k ≤ 1024) (t : ByteArray) (ht : Hid (S (Lib.decDigits X) = t)) :
    Calls Tryz.prog 35 #[.slice A k c] w fun e w' => e = .returned (.tuple #[.string t, .int .i64 0]) ∧ Hid (Has w0 w' l) := by
  rw [← ht.out]
  exact (Text_good w (hT.out.below H.out.b) A k c X (H.out.just hm) hk).mono (fun e w' ⟨he, hb⟩ => ⟨he, Lib.hid (H.out.below hb)⟩)
theorem rtext_at (H : Hid (Has w0 w l)) (A : Option Addr) (k c X : Nat) (hm : (A, k, c, X) ∈ l) (hk : k ≤ 1024) (t : ByteArray) (ht : Hid (S (Lib.decDigits X) = t)) :
    Calls Tryz.prog 38 #[.slice A k c] w fun e w' => e = .returned (.string t) ∧ Hid (Has w0 w' l) := by
  rw [← ht.out]
  by_cases h : X = 0
  · subst h
    obtain rfl : k = 0 := H.out.none hm
    exact rtext_zero H.out A c hm
  · exact rtext_pos H.out A k c X hm hk h
theorem parO_cases {s : List UInt8} {x : Int} {n : Nat} (h : parO s = (x, n)) : (x = 0 ∧ (dg n).length ≤ 1024) ∨ (x ≠ 0 ∧ n = 0) := by
  unfold parO at h
  have hg : ∀ m, giv m = (x, n) → (x = 0 ∧ (dg n).length ≤ 1024) ∨ (x ≠ 0 ∧ n = 0) := fun m hm => by
    by_cases hl : (dg m).length ≤ 1024
    · rw [giv_ok hl] at hm; cases hm; exact Or.inl ⟨rfl, hl⟩
    · rw [giv_no hl] at hm; cases hm; exact Or.inr ⟨by decide, rfl⟩
  repeat' split at h
  all_goals first
    | exact hg _ h
    | (cases h; exact Or.inr ⟨by decide, rfl⟩)
set_option maxRecDepth 100000 in
set_option maxHeartbeats 4000000 in
theorem texts_calls (w : World) (hT : Tabs w) (A1 : Option Addr) (k1 c1 : Nat) (g1 : List Int) (i1 : Inp w A1 k1 c1 g1) (s : ByteArray) (ws : s.size ≤ maxLen) :
    Calls Tryz.prog 6 #[.slice A1 k1 c1, .string s] w (True1 w) := by
  have HT := Lib.hid hT
  have I1 := Lib.hid i1
  have H0 := Lib.hid (Has.nil w)
  clear hT i1
  have hms : s.size ≤ 9223372036854775807 := by simp only [maxLen] at ws; omega
  clear ws
  by_cases q1 : k1 ≤ 200
  case neg =>
    by_cases q2 : k1 ≤ 1024
    case pos =>
      go_enter Tryz.func6, Tryz.ntmps6
      go_wp2_with fail
      refine (light_calls A1 k1 c1 200 w false (Lib.hid (decide_eq_false q1))).mono ?_
      rintro e w' ⟨rfl, rfl⟩
      go_wp2_with fail
      refine (sanity_at H0 HT).mono ?_
      rintro e w1 ⟨rfl, H1⟩
      clear H0
      go_wp2_with fail
      go_ret
      exact ⟨rfl, H1.out.b⟩
    case neg =>
      by_cases g1' : 2500 < s.size ∧ s.size ≤ 20000
      case pos =>
        obtain ⟨p1, p2⟩ := g1'
        go_enter Tryz.func6, Tryz.ntmps6
        go_wp2_with fail
        refine (light_calls A1 k1 c1 200 w false (Lib.hid (decide_eq_false q1))).mono ?_
        rintro e w' ⟨rfl, rfl⟩
        go_wp2_with fail
        refine (sanity_at H0 HT).mono ?_
        rintro e w1 ⟨rfl, H1⟩
        clear H0
        go_wp2_with fail
        go_ret
        exact ⟨rfl, H1.out.b⟩
      have g2' : ¬ 2500 < s.size ∨ (2500 < s.size ∧ ¬ s.size ≤ 20000) := by omega
      clear g1'
      obtain ⟨x, n, hx⟩ : ∃ x n, Hid (parO (L s) = (x, n)) := ⟨_, _, Lib.hid rfl⟩
      have v1 : validB g1 = false := by
        have h := I1.out.len
        cases hv : validB g1 with
        | false => rfl
        | true => exact absurd (I1.out.num H0.out hv).choose_spec.2.1 (by omega)
      rcases g2' with p1 | ⟨p1, p2⟩
      ·
        have HXC := Lib.hid (parO_cases hx.out)
        by_cases x0 : x = 0
        case pos =>
          subst x0
          have HN : Hid (giv n = (0, n)) := Lib.hid (by rcases HXC.out with ⟨_, h⟩ | ⟨h, _⟩; exact giv_ok h; exact absurd rfl h)
          clear HXC
          go_enter Tryz.func6, Tryz.ntmps6
          go_wp2_with fail
          refine (light_calls A1 k1 c1 200 w false (Lib.hid (decide_eq_false q1))).mono ?_
          rintro e w' ⟨rfl, rfl⟩
          go_wp2_with fail
          refine (Text_bad A1 k1 c1 g1 _ (I1.out.rd.below H0.out.b) I1.out.len I1.out.lim (Lib.hid v1)).mono ?_
          rintro e w1 ⟨rfl, hb⟩
          have H1 := Lib.hid (H0.out.below hb)
          clear hb
          clear H0
          go_wp2_with fail
          refine (Parse_x H1.out s hms 0 n hx).mono ?_
          rintro e w2 ⟨B2, j2, d2, rfl, b2, h⟩
          have H2 := Lib.hid h
          clear h H1
          go_wp2_with fail
          refine (rparse_h H2.out s hms 0 n hx).mono ?_
          rintro e w3 ⟨B3, j3, d3, rfl, b3, H3⟩
          clear H2
          obtain ⟨W, hW⟩ : ∃ W, w3.alloc (.cells #[.slice B3 j3 d3, .int .i64 0] 49) = W := ⟨_, rfl⟩
          have HB1 : Hid (Below w.heap.size w W) := Lib.hid (by rw [← hW]; exact (H3.out.alloc _).b)
          have HBB : Hid (Has W W _) := Lib.hid (by rw [← hW]; exact (H3.out.alloc _).rebase)
          have HT2 : Hid (Tabs W) := Lib.hid (HT.out.below HB1.out)
          have C0 : Hid (W.cell? ⟨w3.heap.size, 0, none⟩ = some (.slice B3 j3 d3)) := Lib.hid (by rw [← hW, Lib.cell_of_heap (World.alloc_heap_new _ _)]; rfl)
          have C1 : Hid (W.cell? ⟨w3.heap.size, 1, none⟩ = some (.int .i64 0)) := Lib.hid (by rw [← hW, Lib.cell_of_heap (World.alloc_heap_new _ _)]; rfl)
          have HW := Lib.hid hW
          have HD := Lib.hid (World.alloc_heap_new w3 (.cells #[.slice none 0 0, .int .i64 0] 49))
          clear H3 hW
          go_wp2_with fail
          rw [HW.out]
          refine (is_giv HBB.out B2 j2 d2 (n) B3 j3 d3 (n) 0 (.tail _ (.head _)) (.head _) b2 HN true rfl).mono ?_
          rintro e w4 ⟨rfl, h⟩
          have H4 := Lib.hid h
          clear h HBB
          go_wp2_with fail
          refine (rvalid_calls A1 c1 k1 g1 _ I1.out.len I1.out.lim (I1.out.rd.below (HB1.out.trans (H4.out.b.mono HB1.out.size))) false (Lib.hid v1)).mono ?_
          rintro e w' ⟨rfl, rfl⟩
          go_wp2_with fail
          refine (sanity_at H4 HT2).mono ?_
          rintro e w5 ⟨rfl, H5⟩
          clear H4
          go_wp2_with fail
          go_ret
          exact ⟨rfl, HB1.out.trans (H5.out.b.mono HB1.out.size)⟩
        case neg =>
          obtain rfl : n = 0 := by rcases HXC.out with ⟨h, _⟩ | ⟨_, h⟩; exact absurd h x0; exact h
          have x1 : (x == 0) = false := beq_eq_false_iff_ne.2 x0
          have x2 : (x != 0) = true := by simp [x0]
          clear HXC
          go_enter Tryz.func6, Tryz.ntmps6
          go_wp2_with fail
          refine (light_calls A1 k1 c1 200 w false (Lib.hid (decide_eq_false q1))).mono ?_
          rintro e w' ⟨rfl, rfl⟩
          go_wp2_with fail
          refine (Text_bad A1 k1 c1 g1 _ (I1.out.rd.below H0.out.b) I1.out.len I1.out.lim (Lib.hid v1)).mono ?_
          rintro e w1 ⟨rfl, hb⟩
          have H1 := Lib.hid (H0.out.below hb)
          clear hb
          clear H0
          go_wp2_with fail
          refine (Parse_x H1.out s hms x 0 hx).mono ?_
          rintro e w2 ⟨B2, j2, d2, rfl, b2, h⟩
          have H2 := Lib.hid h
          clear h H1
          obtain rfl := H2.out.none (.head _)
          go_wp2_with fail
          refine (rparse_h H2.out s hms x 0 hx).mono ?_
          rintro e w3 ⟨B3, j3, d3, rfl, b3, H3⟩
          clear H2
          obtain ⟨W, hW⟩ : ∃ W, w3.alloc (.cells #[.slice B3 j3 d3, .int .i64 x] 49) = W := ⟨_, rfl⟩
          have HB1 : Hid (Below w.heap.size w W) := Lib.hid (by rw [← hW]; exact (H3.out.alloc _).b)
          have HBB : Hid (Has W W _) := Lib.hid (by rw [← hW]; exact (H3.out.alloc _).rebase)
          have HT2 : Hid (Tabs W) := Lib.hid (HT.out.below HB1.out)
          have C0 : Hid (W.cell? ⟨w3.heap.size, 0, none⟩ = some (.slice B3 j3 d3)) := Lib.hid (by rw [← hW, Lib.cell_of_heap (World.alloc_heap_new _ _)]; rfl)
          have C1 : Hid (W.cell? ⟨w3.heap.size, 1, none⟩ = some (.int .i64 x)) := Lib.hid (by rw [← hW, Lib.cell_of_heap (World.alloc_heap_new _ _)]; rfl)
          have HW := Lib.hid hW
          have HD := Lib.hid (World.alloc_heap_new w3 (.cells #[.slice none 0 0, .int .i64 0] 49))
          clear H3 hW
          go_wp2_with fail
          rw [HW.out]
          refine (refused_calls B2 d2 x x _ true (Lib.hid (by simp))).mono ?_
          rintro e w' ⟨rfl, rfl⟩
          have c1' := C1.out
          go_wp2_with fail
          refine (rvalid_calls A1 c1 k1 g1 _ I1.out.len I1.out.lim (I1.out.rd.below (HB1.out.trans (HBB.out.b.mono HB1.out.size))) false (Lib.hid v1)).mono ?_
          rintro e w' ⟨rfl, rfl⟩
          go_wp2_with fail
          refine (sanity_at HBB HT2).mono ?_
          rintro e w4 ⟨rfl, H4⟩
          clear HBB
          go_wp2_with fail
          go_ret
          exact ⟨rfl, HB1.out.trans (H4.out.b.mono HB1.out.size)⟩
      ·
        have HXC := Lib.hid (parO_cases hx.out)
        by_cases x0 : x = 0
        case pos =>
          subst x0
          have HN : Hid (giv n = (0, n)) := Lib.hid (by rcases HXC.out with ⟨_, h⟩ | ⟨h, _⟩; exact giv_ok h; exact absurd rfl h)
          clear HXC
          go_enter Tryz.func6, Tryz.ntmps6
          go_wp2_with fail
          refine (light_calls A1 k1 c1 200 w false (Lib.hid (decide_eq_false q1))).mono ?_
          rintro e w' ⟨rfl, rfl⟩
          go_wp2_with fail
          refine (Text_bad A1 k1 c1 g1 _ (I1.out.rd.below H0.out.b) I1.out.len I1.out.lim (Lib.hid v1)).mono ?_
          rintro e w1 ⟨rfl, hb⟩
          have H1 := Lib.hid (H0.out.below hb)
          clear hb
          clear H0
          go_wp2_with fail
          refine (Parse_x H1.out s hms 0 n hx).mono ?_
          rintro e w2 ⟨B2, j2, d2, rfl, b2, h⟩
          have H2 := Lib.hid h
          clear h H1
          go_wp2_with fail
          refine (rparse_h H2.out s hms 0 n hx).mono ?_
          rintro e w3 ⟨B3, j3, d3, rfl, b3, H3⟩
          clear H2
          obtain ⟨W, hW⟩ : ∃ W, w3.alloc (.cells #[.slice B3 j3 d3, .int .i64 0] 49) = W := ⟨_, rfl⟩
          have HB1 : Hid (Below w.heap.size w W) := Lib.hid (by rw [← hW]; exact (H3.out.alloc _).b)
          have HBB : Hid (Has W W _) := Lib.hid (by rw [← hW]; exact (H3.out.alloc _).rebase)
          have HT2 : Hid (Tabs W) := Lib.hid (HT.out.below HB1.out)
          have C0 : Hid (W.cell? ⟨w3.heap.size, 0, none⟩ = some (.slice B3 j3 d3)) := Lib.hid (by rw [← hW, Lib.cell_of_heap (World.alloc_heap_new _ _)]; rfl)
          have C1 : Hid (W.cell? ⟨w3.heap.size, 1, none⟩ = some (.int .i64 0)) := Lib.hid (by rw [← hW, Lib.cell_of_heap (World.alloc_heap_new _ _)]; rfl)
          have HW := Lib.hid hW
          have HD := Lib.hid (World.alloc_heap_new w3 (.cells #[.slice none 0 0, .int .i64 0] 49))
          clear H3 hW
          go_wp2_with fail
          rw [HW.out]
          refine (is_giv HBB.out B2 j2 d2 (n) B3 j3 d3 (n) 0 (.tail _ (.head _)) (.head _) b2 HN true rfl).mono ?_
          rintro e w4 ⟨rfl, h⟩
          have H4 := Lib.hid h
          clear h HBB
          go_wp2_with fail
          refine (rvalid_calls A1 c1 k1 g1 _ I1.out.len I1.out.lim (I1.out.rd.below (HB1.out.trans (H4.out.b.mono HB1.out.size))) false (Lib.hid v1)).mono ?_
          rintro e w' ⟨rfl, rfl⟩
          go_wp2_with fail
          refine (sanity_at H4 HT2).mono ?_
          rintro e w5 ⟨rfl, H5⟩
          clear H4
          go_wp2_with fail
          go_ret
          exact ⟨rfl, HB1.out.trans (H5.out.b.mono HB1.out.size)⟩
        case neg =>
          obtain rfl : n = 0 := by rcases HXC.out with ⟨h, _⟩ | ⟨_, h⟩; exact absurd h x0; exact h
          have x1 : (x == 0) = false := beq_eq_false_iff_ne.2 x0
          have x2 : (x != 0) = true := by simp [x0]
          clear HXC
          go_enter Tryz.func6, Tryz.ntmps6
          go_wp2_with fail
          refine (light_calls A1 k1 c1 200 w false (Lib.hid (decide_eq_false q1))).mono ?_
          rintro e w' ⟨rfl, rfl⟩
          go_wp2_with fail
          refine (Text_bad A1 k1 c1 g1 _ (I1.out.rd.below H0.out.b) I1.out.len I1.out.lim (Lib.hid v1)).mono ?_
          rintro e w1 ⟨rfl, hb⟩
          have H1 := Lib.hid (H0.out.below hb)
          clear hb
          clear H0
          go_wp2_with fail
          refine (Parse_x H1.out s hms x 0 hx).mono ?_
          rintro e w2 ⟨B2, j2, d2, rfl, b2, h⟩
          have H2 := Lib.hid h
          clear h H1
          obtain rfl := H2.out.none (.head _)
          go_wp2_with fail
          refine (rparse_h H2.out s hms x 0 hx).mono ?_
          rintro e w3 ⟨B3, j3, d3, rfl, b3, H3⟩
          clear H2
          obtain ⟨W, hW⟩ : ∃ W, w3.alloc (.cells #[.slice B3 j3 d3, .int .i64 x] 49) = W := ⟨_, rfl⟩
          have HB1 : Hid (Below w.heap.size w W) := Lib.hid (by rw [← hW]; exact (H3.out.alloc _).b)
          have HBB : Hid (Has W W _) := Lib.hid (by rw [← hW]; exact (H3.out.alloc _).rebase)
          have HT2 : Hid (Tabs W) := Lib.hid (HT.out.below HB1.out)
          have C0 : Hid (W.cell? ⟨w3.heap.size, 0, none⟩ = some (.slice B3 j3 d3)) := Lib.hid (by rw [← hW, Lib.cell_of_heap (World.alloc_heap_new _ _)]; rfl)
          have C1 : Hid (W.cell? ⟨w3.heap.size, 1, none⟩ = some (.int .i64 x)) := Lib.hid (by rw [← hW, Lib.cell_of_heap (World.alloc_heap_new _ _)]; rfl)
          have HW := Lib.hid hW
          have HD := Lib.hid (World.alloc_heap_new w3 (.cells #[.slice none 0 0, .int .i64 0] 49))
          clear H3 hW
          go_wp2_with fail
          rw [HW.out]
          refine (refused_calls B2 d2 x x _ true (Lib.hid (by simp))).mono ?_
          rintro e w' ⟨rfl, rfl⟩
          have c1' := C1.out
          go_wp2_with fail
          refine (rvalid_calls A1 c1 k1 g1 _ I1.out.len I1.out.lim (I1.out.rd.below (HB1.out.trans (HBB.out.b.mono HB1.out.size))) false (Lib.hid v1)).mono ?_
          rintro e w' ⟨rfl, rfl⟩
          go_wp2_with fail
          refine (sanity_at HBB HT2).mono ?_
          rintro e w4 ⟨rfl, H4⟩
          clear HBB
          go_wp2_with fail
          go_ret
          exact ⟨rfl, HB1.out.trans (H4.out.b.mono HB1.out.size)⟩
  case pos =>
    by_cases g1' : 2500 < s.size ∧ s.size ≤ 20000
    case pos =>
      obtain ⟨p1, p2⟩ := g1'
      go_enter Tryz.func6, Tryz.ntmps6
      go_wp2_with fail
      refine (light_calls A1 k1 c1 200 w true (Lib.hid (decide_eq_true q1))).mono ?_
      rintro e w' ⟨rfl, rfl⟩
      go_wp2_with fail
      refine (sanity_at H0 HT).mono ?_
      rintro e w1 ⟨rfl, H1⟩
      clear H0
      go_wp2_with fail
      go_ret
      exact ⟨rfl, H1.out.b⟩
    have g2' : ¬ 2500 < s.size ∨ (2500 < s.size ∧ ¬ s.size ≤ 20000) := by omega
    clear g1'
    obtain ⟨x, n, hx⟩ : ∃ x n, Hid (parO (L s) = (x, n)) := ⟨_, _, Lib.hid rfl⟩
    cases v1 : validB g1
    case false =>
      rcases g2' with p1 | ⟨p1, p2⟩
      ·
        have HXC := Lib.hid (parO_cases hx.out)
        by_cases x0 : x = 0
        case pos =>
          subst x0
          have HN : Hid (giv n = (0, n)) := Lib.hid (by rcases HXC.out with ⟨_, h⟩ | ⟨h, _⟩; exact giv_ok h; exact absurd rfl h)
          clear HXC
          go_enter Tryz.func6, Tryz.ntmps6
          go_wp2_with fail
          refine (light_calls A1 k1 c1 200 w true (Lib.hid (decide_eq_true q1))).mono ?_
          rintro e w' ⟨rfl, rfl⟩
          go_wp2_with fail
          refine (Text_bad A1 k1 c1 g1 _ (I1.out.rd.below H0.out.b) I1.out.len I1.out.lim (Lib.hid v1)).mono ?_
          rintro e w1 ⟨rfl, hb⟩
          have H1 := Lib.hid (H0.out.below hb)
          clear hb
          clear H0
          go_wp2_with fail
          refine (Parse_x H1.out s hms 0 n hx).mono ?_
          rintro e w2 ⟨B2, j2, d2, rfl, b2, h⟩
          have H2 := Lib.hid h
          clear h H1
          go_wp2_with fail
          refine (rparse_h H2.out s hms 0 n hx).mono ?_
          rintro e w3 ⟨B3, j3, d3, rfl, b3, H3⟩
          clear H2
          obtain ⟨W, hW⟩ : ∃ W, w3.alloc (.cells #[.slice B3 j3 d3, .int .i64 0] 49) = W := ⟨_, rfl⟩
          have HB1 : Hid (Below w.heap.size w W) := Lib.hid (by rw [← hW]; exact (H3.out.alloc _).b)
          have HBB : Hid (Has W W _) := Lib.hid (by rw [← hW]; exact (H3.out.alloc _).rebase)
          have HT2 : Hid (Tabs W) := Lib.hid (HT.out.below HB1.out)
          have C0 : Hid (W.cell? ⟨w3.heap.size, 0, none⟩ = some (.slice B3 j3 d3)) := Lib.hid (by rw [← hW, Lib.cell_of_heap (World.alloc_heap_new _ _)]; rfl)
          have C1 : Hid (W.cell? ⟨w3.heap.size, 1, none⟩ = some (.int .i64 0)) := Lib.hid (by rw [← hW, Lib.cell_of_heap (World.alloc_heap_new _ _)]; rfl)
          have HW := Lib.hid hW
          have HD := Lib.hid (World.alloc_heap_new w3 (.cells #[.slice none 0 0, .int .i64 0] 49))
          clear H3 hW
          go_wp2_with fail
          rw [HW.out]
          refine (is_giv HBB.out B2 j2 d2 (n) B3 j3 d3 (n) 0 (.tail _ (.head _)) (.head _) b2 HN true rfl).mono ?_
          rintro e w4 ⟨rfl, h⟩
          have H4 := Lib.hid h
          clear h HBB
          go_wp2_with fail
          refine (rvalid_calls A1 c1 k1 g1 _ I1.out.len I1.out.lim (I1.out.rd.below (HB1.out.trans (H4.out.b.mono HB1.out.size))) false (Lib.hid v1)).mono ?_
          rintro e w' ⟨rfl, rfl⟩
          go_wp2_with fail
          refine (sanity_at H4 HT2).mono ?_
          rintro e w5 ⟨rfl, H5⟩
          clear H4
          go_wp2_with fail
          go_ret
          exact ⟨rfl, HB1.out.trans (H5.out.b.mono HB1.out.size)⟩
        case neg =>
          obtain rfl : n = 0 := by rcases HXC.out with ⟨h, _⟩ | ⟨_, h⟩; exact absurd h x0; exact h
          have x1 : (x == 0) = false := beq_eq_false_iff_ne.2 x0
          have x2 : (x != 0) = true := by simp [x0]
          clear HXC
          go_enter Tryz.func6, Tryz.ntmps6
          go_wp2_with fail
          refine (light_calls A1 k1 c1 200 w true (Lib.hid (decide_eq_true q1))).mono ?_
          rintro e w' ⟨rfl, rfl⟩
          go_wp2_with fail
          refine (Text_bad A1 k1 c1 g1 _ (I1.out.rd.below H0.out.b) I1.out.len I1.out.lim (Lib.hid v1)).mono ?_
          rintro e w1 ⟨rfl, hb⟩
          have H1 := Lib.hid (H0.out.below hb)
          clear hb
          clear H0
          go_wp2_with fail
          refine (Parse_x H1.out s hms x 0 hx).mono ?_
          rintro e w2 ⟨B2, j2, d2, rfl, b2, h⟩
          have H2 := Lib.hid h
          clear h H1
          obtain rfl := H2.out.none (.head _)
          go_wp2_with fail
          refine (rparse_h H2.out s hms x 0 hx).mono ?_
          rintro e w3 ⟨B3, j3, d3, rfl, b3, H3⟩
          clear H2
          obtain ⟨W, hW⟩ : ∃ W, w3.alloc (.cells #[.slice B3 j3 d3, .int .i64 x] 49) = W := ⟨_, rfl⟩
          have HB1 : Hid (Below w.heap.size w W) := Lib.hid (by rw [← hW]; exact (H3.out.alloc _).b)
          have HBB : Hid (Has W W _) := Lib.hid (by rw [← hW]; exact (H3.out.alloc _).rebase)
          have HT2 : Hid (Tabs W) := Lib.hid (HT.out.below HB1.out)
          have C0 : Hid (W.cell? ⟨w3.heap.size, 0, none⟩ = some (.slice B3 j3 d3)) := Lib.hid (by rw [← hW, Lib.cell_of_heap (World.alloc_heap_new _ _)]; rfl)
          have C1 : Hid (W.cell? ⟨w3.heap.size, 1, none⟩ = some (.int .i64 x)) := Lib.hid (by rw [← hW, Lib.cell_of_heap (World.alloc_heap_new _ _)]; rfl)
          have HW := Lib.hid hW
          have HD := Lib.hid (World.alloc_heap_new w3 (.cells #[.slice none 0 0, .int .i64 0] 49))
          clear H3 hW
          go_wp2_with fail
          rw [HW.out]
          refine (refused_calls B2 d2 x x _ true (Lib.hid (by simp))).mono ?_
          rintro e w' ⟨rfl, rfl⟩
          have c1' := C1.out
          go_wp2_with fail
          refine (rvalid_calls A1 c1 k1 g1 _ I1.out.len I1.out.lim (I1.out.rd.below (HB1.out.trans (HBB.out.b.mono HB1.out.size))) false (Lib.hid v1)).mono ?_
          rintro e w' ⟨rfl, rfl⟩
          go_wp2_with fail
          refine (sanity_at HBB HT2).mono ?_
          rintro e w4 ⟨rfl, H4⟩
          clear HBB
          go_wp2_with fail
          go_ret
          exact ⟨rfl, HB1.out.trans (H4.out.b.mono HB1.out.size)⟩
      ·
        have HXC := Lib.hid (parO_cases hx.out)
        by_cases x0 : x = 0
        case pos =>
          subst x0
          have HN : Hid (giv n = (0, n)) := Lib.hid (by rcases HXC.out with ⟨_, h⟩ | ⟨h, _⟩; exact giv_ok h; exact absurd rfl h)
          clear HXC
          go_enter Tryz.func6, Tryz.ntmps6
          go_wp2_with fail
          refine (light_calls A1 k1 c1 200 w true (Lib.hid (decide_eq_true q1))).mono ?_
          rintro e w' ⟨rfl, rfl⟩
          go_wp2_with fail
          refine (Text_bad A1 k1 c1 g1 _ (I1.out.rd.below H0.out.b) I1.out.len I1.out.lim (Lib.hid v1)).mono ?_
          rintro e w1 ⟨rfl, hb⟩
          have H1 := Lib.hid (H0.out.below hb)
          clear hb
          clear H0
          go_wp2_with fail
          refine (Parse_x H1.out s hms 0 n hx).mono ?_
          rintro e w2 ⟨B2, j2, d2, rfl, b2, h⟩
          have H2 := Lib.hid h
          clear h H1
          go_wp2_with fail
          refine (rparse_h H2.out s hms 0 n hx).mono ?_
          rintro e w3 ⟨B3, j3, d3, rfl, b3, H3⟩
          clear H2
          obtain ⟨W, hW⟩ : ∃ W, w3.alloc (.cells #[.slice B3 j3 d3, .int .i64 0] 49) = W := ⟨_, rfl⟩
          have HB1 : Hid (Below w.heap.size w W) := Lib.hid (by rw [← hW]; exact (H3.out.alloc _).b)
          have HBB : Hid (Has W W _) := Lib.hid (by rw [← hW]; exact (H3.out.alloc _).rebase)
          have HT2 : Hid (Tabs W) := Lib.hid (HT.out.below HB1.out)
          have C0 : Hid (W.cell? ⟨w3.heap.size, 0, none⟩ = some (.slice B3 j3 d3)) := Lib.hid (by rw [← hW, Lib.cell_of_heap (World.alloc_heap_new _ _)]; rfl)
          have C1 : Hid (W.cell? ⟨w3.heap.size, 1, none⟩ = some (.int .i64 0)) := Lib.hid (by rw [← hW, Lib.cell_of_heap (World.alloc_heap_new _ _)]; rfl)
          have HW := Lib.hid hW
          have HD := Lib.hid (World.alloc_heap_new w3 (.cells #[.slice none 0 0, .int .i64 0] 49))
          clear H3 hW
          go_wp2_with fail
          rw [HW.out]
          refine (is_giv HBB.out B2 j2 d2 (n) B3 j3 d3 (n) 0 (.tail _ (.head _)) (.head _) b2 HN true rfl).mono ?_
          rintro e w4 ⟨rfl, h⟩
          have H4 := Lib.hid h
          clear h HBB
          go_wp2_with fail
          refine (rvalid_calls A1 c1 k1 g1 _ I1.out.len I1.out.lim (I1.out.rd.below (HB1.out.trans (H4.out.b.mono HB1.out.size))) false (Lib.hid v1)).mono ?_
          rintro e w' ⟨rfl, rfl⟩
          go_wp2_with fail
          refine (sanity_at H4 HT2).mono ?_
          rintro e w5 ⟨rfl, H5⟩
          clear H4
          go_wp2_with fail
          go_ret
          exact ⟨rfl, HB1.out.trans (H5.out.b.mono HB1.out.size)⟩
        case neg =>
          obtain rfl : n = 0 := by rcases HXC.out with ⟨h, _⟩ | ⟨_, h⟩; exact absurd h x0; exact h
          have x1 : (x == 0) = false := beq_eq_false_iff_ne.2 x0
          have x2 : (x != 0) = true := by simp [x0]
          clear HXC
          go_enter Tryz.func6, Tryz.ntmps6
          go_wp2_with fail
          refine (light_calls A1 k1 c1 200 w true (Lib.hid (decide_eq_true q1))).mono ?_
          rintro e w' ⟨rfl, rfl⟩
          go_wp2_with fail
          refine (Text_bad A1 k1 c1 g1 _ (I1.out.rd.below H0.out.b) I1.out.len I1.out.lim (Lib.hid v1)).mono ?_
          rintro e w1 ⟨rfl, hb⟩
          have H1 := Lib.hid (H0.out.below hb)
          clear hb
          clear H0
          go_wp2_with fail
          refine (Parse_x H1.out s hms x 0 hx).mono ?_
          rintro e w2 ⟨B2, j2, d2, rfl, b2, h⟩
          have H2 := Lib.hid h
          clear h H1
          obtain rfl := H2.out.none (.head _)
          go_wp2_with fail
          refine (rparse_h H2.out s hms x 0 hx).mono ?_
          rintro e w3 ⟨B3, j3, d3, rfl, b3, H3⟩
          clear H2
          obtain ⟨W, hW⟩ : ∃ W, w3.alloc (.cells #[.slice B3 j3 d3, .int .i64 x] 49) = W := ⟨_, rfl⟩
          have HB1 : Hid (Below w.heap.size w W) := Lib.hid (by rw [← hW]; exact (H3.out.alloc _).b)
          have HBB : Hid (Has W W _) := Lib.hid (by rw [← hW]; exact (H3.out.alloc _).rebase)
          have HT2 : Hid (Tabs W) := Lib.hid (HT.out.below HB1.out)
          have C0 : Hid (W.cell? ⟨w3.heap.size, 0, none⟩ = some (.slice B3 j3 d3)) := Lib.hid (by rw [← hW, Lib.cell_of_heap (World.alloc_heap_new _ _)]; rfl)
          have C1 : Hid (W.cell? ⟨w3.heap.size, 1, none⟩ = some (.int .i64 x)) := Lib.hid (by rw [← hW, Lib.cell_of_heap (World.alloc_heap_new _ _)]; rfl)
          have HW := Lib.hid hW
          have HD := Lib.hid (World.alloc_heap_new w3 (.cells #[.slice none 0 0, .int .i64 0] 49))
          clear H3 hW
          go_wp2_with fail
          rw [HW.out]
          refine (refused_calls B2 d2 x x _ true (Lib.hid (by simp))).mono ?_
          rintro e w' ⟨rfl, rfl⟩
          have c1' := C1.out
          go_wp2_with fail
          refine (rvalid_calls A1 c1 k1 g1 _ I1.out.len I1.out.lim (I1.out.rd.below (HB1.out.trans (HBB.out.b.mono HB1.out.size))) false (Lib.hid v1)).mono ?_
          rintro e w' ⟨rfl, rfl⟩
          go_wp2_with fail
          refine (sanity_at HBB HT2).mono ?_
          rintro e w4 ⟨rfl, H4⟩
          clear HBB
          go_wp2_with fail
          go_ret
          exact ⟨rfl, HB1.out.trans (H4.out.b.mono HB1.out.size)⟩
    case true =>
      obtain ⟨a, rfl, e1, _⟩ := I1.out.num H0.out v1
      have HV := Lib.hid v1
      obtain ⟨t, HTT⟩ : ∃ t, Hid (S (Lib.decDigits a) = t) := ⟨_, Lib.hid rfl⟩
      clear v1
      rcases g2' with p1 | ⟨p1, p2⟩
      ·
        have HXC := Lib.hid (parO_cases hx.out)
        by_cases x0 : x = 0
        case pos =>
          subst x0
          have HN : Hid (giv n = (0, n)) := Lib.hid (by rcases HXC.out with ⟨_, h⟩ | ⟨h, _⟩; exact giv_ok h; exact absurd rfl h)
          clear HXC
          go_enter Tryz.func6, Tryz.ntmps6
          go_wp2_with fail
          refine (light_calls A1 k1 c1 200 w true (Lib.hid (decide_eq_true q1))).mono ?_
          rintro e w' ⟨rfl, rfl⟩
          have h := ((I1.out.below H0.out.b).has (H0.out))
          have H1 := Lib.hid h
          clear h H0
          go_wp2_with fail
          refine (text_at H1 HT A1 k1 c1 (a) (.head _) e1 t HTT).mono ?_
          rintro e w2 ⟨rfl, H2⟩
          clear H1
          go_wp2_with fail
          refine (Parse_x H2.out s hms 0 n hx).mono ?_
          rintro e w3 ⟨B3, j3, d3, rfl, b3, h⟩
          have H3 := Lib.hid h
          clear h H2
          go_wp2_with fail
          refine (rparse_h H3.out s hms 0 n hx).mono ?_
          rintro e w4 ⟨B4, j4, d4, rfl, b4, H4⟩
          clear H3
          obtain ⟨W, hW⟩ : ∃ W, w4.alloc (.cells #[.slice B4 j4 d4, .int .i64 0] 49) = W := ⟨_, rfl⟩
          have HB1 : Hid (Below w.heap.size w W) := Lib.hid (by rw [← hW]; exact (H4.out.alloc _).b)
          have HBB : Hid (Has W W _) := Lib.hid (by rw [← hW]; exact (H4.out.alloc _).rebase)
          have HT2 : Hid (Tabs W) := Lib.hid (HT.out.below HB1.out)
          have C0 : Hid (W.cell? ⟨w4.heap.size, 0, none⟩ = some (.slice B4 j4 d4)) := Lib.hid (by rw [← hW, Lib.cell_of_heap (World.alloc_heap_new _ _)]; rfl)
          have C1 : Hid (W.cell? ⟨w4.heap.size, 1, none⟩ = some (.int .i64 0)) := Lib.hid (by rw [← hW, Lib.cell_of_heap (World.alloc_heap_new _ _)]; rfl)
          have HW := Lib.hid hW
          have HD := Lib.hid (World.alloc_heap_new w4 (.cells #[.slice none 0 0, .int .i64 0] 49))
          clear H4 hW
          go_wp2_with fail
          rw [HW.out]
          refine (is_giv HBB.out B3 j3 d3 (n) B4 j4 d4 (n) 0 (.tail _ (.head _)) (.head _) b3 HN true rfl).mono ?_
          rintro e w5 ⟨rfl, h⟩
          have H5 := Lib.hid h
          clear h HBB
          go_wp2_with fail
          refine (rvalid_calls A1 c1 k1 (dg a) _ I1.out.len I1.out.lim (I1.out.rd.below (HB1.out.trans (H5.out.b.mono HB1.out.size))) true HV).mono ?_
          rintro e w' ⟨rfl, rfl⟩
          go_wp2_with fail
          refine (sanity_at H5 HT2).mono ?_
          rintro e w6 ⟨rfl, H6⟩
          clear H5
          go_wp2_with fail
          refine (rtext_at H6 A1 k1 c1 (a) (.tail _ (.tail _ (.head _))) e1 t HTT).mono ?_
          rintro e w7 ⟨rfl, H7⟩
          clear H6
          go_wp2_with fail
          go_ret
          exact ⟨rfl, HB1.out.trans (H7.out.b.mono HB1.out.size)⟩
        case neg =>
          obtain rfl : n = 0 := by rcases HXC.out with ⟨h, _⟩ | ⟨_, h⟩; exact absurd h x0; exact h
          have x1 : (x == 0) = false := beq_eq_false_iff_ne.2 x0
          have x2 : (x != 0) = true := by simp [x0]
          clear HXC
          go_enter Tryz.func6, Tryz.ntmps6
          go_wp2_with fail
          refine (light_calls A1 k1 c1 200 w true (Lib.hid (decide_eq_true q1))).mono ?_
          rintro e w' ⟨rfl, rfl⟩
          have h := ((I1.out.below H0.out.b).has (H0.out))
          have H1 := Lib.hid h
          clear h H0
          go_wp2_with fail
          refine (text_at H1 HT A1 k1 c1 (a) (.head _) e1 t HTT).mono ?_
          rintro e w2 ⟨rfl, H2⟩
          clear H1
          go_wp2_with fail
          refine (Parse_x H2.out s hms x 0 hx).mono ?_
          rintro e w3 ⟨B3, j3, d3, rfl, b3, h⟩
          have H3 := Lib.hid h
          clear h H2
          obtain rfl := H3.out.none (.head _)
          go_wp2_with fail
          refine (rparse_h H3.out s hms x 0 hx).mono ?_
          rintro e w4 ⟨B4, j4, d4, rfl, b4, H4⟩
          clear H3
          obtain ⟨W, hW⟩ : ∃ W, w4.alloc (.cells #[.slice B4 j4 d4, .int .i64 x] 49) = W := ⟨_, rfl⟩
          have HB1 : Hid (Below w.heap.size w W) := Lib.hid (by rw [← hW]; exact (H4.out.alloc _).b)
          have HBB : Hid (Has W W _) := Lib.hid (by rw [← hW]; exact (H4.out.alloc _).rebase)
          have HT2 : Hid (Tabs W) := Lib.hid (HT.out.below HB1.out)
          have C0 : Hid (W.cell? ⟨w4.heap.size, 0, none⟩ = some (.slice B4 j4 d4)) := Lib.hid (by rw [← hW, Lib.cell_of_heap (World.alloc_heap_new _ _)]; rfl)
          have C1 : Hid (W.cell? ⟨w4.heap.size, 1, none⟩ = some (.int .i64 x)) := Lib.hid (by rw [← hW, Lib.cell_of_heap (World.alloc_heap_new _ _)]; rfl)
          have HW := Lib.hid hW
          have HD := Lib.hid (World.alloc_heap_new w4 (.cells #[.slice none 0 0, .int .i64 0] 49))
          clear H4 hW
          go_wp2_with fail
          rw [HW.out]
          refine (refused_calls B3 d3 x x _ true (Lib.hid (by simp))).mono ?_
          rintro e w' ⟨rfl, rfl⟩
          have c1' := C1.out
          go_wp2_with fail
          refine (rvalid_calls A1 c1 k1 (dg a) _ I1.out.len I1.out.lim (I1.out.rd.below (HB1.out.trans (HBB.out.b.mono HB1.out.size))) true HV).mono ?_
          rintro e w' ⟨rfl, rfl⟩
          go_wp2_with fail
          refine (sanity_at HBB HT2).mono ?_
          rintro e w5 ⟨rfl, H5⟩
          clear HBB
          go_wp2_with fail
          refine (rtext_at H5 A1 k1 c1 (a) (.tail _ (.tail _ (.head _))) e1 t HTT).mono ?_
          rintro e w6 ⟨rfl, H6⟩
          clear H5
          go_wp2_with fail
          go_ret
          exact ⟨rfl, HB1.out.trans (H6.out.b.mono HB1.out.size)⟩
      ·
        have HXC := Lib.hid (parO_cases hx.out)
        by_cases x0 : x = 0
        case pos =>
          subst x0
          have HN : Hid (giv n = (0, n)) := Lib.hid (by rcases HXC.out with ⟨_, h⟩ | ⟨h, _⟩; exact giv_ok h; exact absurd rfl h)
          clear HXC
          go_enter Tryz.func6, Tryz.ntmps6
          go_wp2_with fail
          refine (light_calls A1 k1 c1 200 w true (Lib.hid (decide_eq_true q1))).mono ?_
          rintro e w' ⟨rfl, rfl⟩
          have h := ((I1.out.below H0.out.b).has (H0.out))
          have H1 := Lib.hid h
          clear h H0
          go_wp2_with fail
          refine (text_at H1 HT A1 k1 c1 (a) (.head _) e1 t HTT).mono ?_
          rintro e w2 ⟨rfl, H2⟩
          clear H1
          go_wp2_with fail
          refine (Parse_x H2.out s hms 0 n hx).mono ?_
          rintro e w3 ⟨B3, j3, d3, rfl, b3, h⟩
          have H3 := Lib.hid h
          clear h H2
          go_wp2_with fail
          refine (rparse_h H3.out s hms 0 n hx).mono ?_
          rintro e w4 ⟨B4, j4, d4, rfl, b4, H4⟩
          clear H3
          obtain ⟨W, hW⟩ : ∃ W, w4.alloc (.cells #[.slice B4 j4 d4, .int .i64 0] 49) = W := ⟨_, rfl⟩
          have HB1 : Hid (Below w.heap.size w W) := Lib.hid (by rw [← hW]; exact (H4.out.alloc _).b)
          have HBB : Hid (Has W W _) := Lib.hid (by rw [← hW]; exact (H4.out.alloc _).rebase)
          have HT2 : Hid (Tabs W) := Lib.hid (HT.out.below HB1.out)
          have C0 : Hid (W.cell? ⟨w4.heap.size, 0, none⟩ = some (.slice B4 j4 d4)) := Lib.hid (by rw [← hW, Lib.cell_of_heap (World.alloc_heap_new _ _)]; rfl)
          have C1 : Hid (W.cell? ⟨w4.heap.size, 1, none⟩ = some (.int .i64 0)) := Lib.hid (by rw [← hW, Lib.cell_of_heap (World.alloc_heap_new _ _)]; rfl)
          have HW := Lib.hid hW
          have HD := Lib.hid (World.alloc_heap_new w4 (.cells #[.slice none 0 0, .int .i64 0] 49))
          clear H4 hW
          go_wp2_with fail
          rw [HW.out]
          refine (is_giv HBB.out B3 j3 d3 (n) B4 j4 d4 (n) 0 (.tail _ (.head _)) (.head _) b3 HN true rfl).mono ?_
          rintro e w5 ⟨rfl, h⟩
          have H5 := Lib.hid h
          clear h HBB
          go_wp2_with fail
          refine (rvalid_calls A1 c1 k1 (dg a) _ I1.out.len I1.out.lim (I1.out.rd.below (HB1.out.trans (H5.out.b.mono HB1.out.size))) true HV).mono ?_
          rintro e w' ⟨rfl, rfl⟩
          go_wp2_with fail
          refine (sanity_at H5 HT2).mono ?_
          rintro e w6 ⟨rfl, H6⟩
          clear H5
          go_wp2_with fail
          refine (rtext_at H6 A1 k1 c1 (a) (.tail _ (.tail _ (.head _))) e1 t HTT).mono ?_
          rintro e w7 ⟨rfl, H7⟩
          clear H6
          go_wp2_with fail
          go_ret
          exact ⟨rfl, HB1.out.trans (H7.out.b.mono HB1.out.size)⟩
        case neg =>
          obtain rfl : n = 0 := by rcases HXC.out with ⟨h, _⟩ | ⟨_, h⟩; exact absurd h x0; exact h
          have x1 : (x == 0) = false := beq_eq_false_iff_ne.2 x0
          have x2 : (x != 0) = true := by simp [x0]
          clear HXC
          go_enter Tryz.func6, Tryz.ntmps6
          go_wp2_with fail
          refine (light_calls A1 k1 c1 200 w true (Lib.hid (decide_eq_true q1))).mono ?_
          rintro e w' ⟨rfl, rfl⟩
          have h := ((I1.out.below H0.out.b).has (H0.out))
          have H1 := Lib.hid h
          clear h H0
          go_wp2_with fail
          refine (text_at H1 HT A1 k1 c1 (a) (.head _) e1 t HTT).mono ?_
          rintro e w2 ⟨rfl, H2⟩
          clear H1
          go_wp2_with fail
          refine (Parse_x H2.out s hms x 0 hx).mono ?_
          rintro e w3 ⟨B3, j3, d3, rfl, b3, h⟩
          have H3 := Lib.hid h
          clear h H2
          obtain rfl := H3.out.none (.head _)
          go_wp2_with fail
          refine (rparse_h H3.out s hms x 0 hx).mono ?_
          rintro e w4 ⟨B4, j4, d4, rfl, b4, H4⟩
          clear H3
          obtain ⟨W, hW⟩ : ∃ W, w4.alloc (.cells #[.slice B4 j4 d4, .int .i64 x] 49) = W := ⟨_, rfl⟩
          have HB1 : Hid (Below w.heap.size w W) := Lib.hid (by rw [← hW]; exact (H4.out.alloc _).b)
          have HBB : Hid (Has W W _) := Lib.hid (by rw [← hW]; exact (H4.out.alloc _).rebase)
          have HT2 : Hid (Tabs W) := Lib.hid (HT.out.below HB1.out)
          have C0 : Hid (W.cell? ⟨w4.heap.size, 0, none⟩ = some (.slice B4 j4 d4)) := Lib.hid (by rw [← hW, Lib.cell_of_heap (World.alloc_heap_new _ _)]; rfl)
          have C1 : Hid (W.cell? ⟨w4.heap.size, 1, none⟩ = some (.int .i64 x)) := Lib.hid (by rw [← hW, Lib.cell_of_heap (World.alloc_heap_new _ _)]; rfl)
          have HW := Lib.hid hW
          have HD := Lib.hid (World.alloc_heap_new w4 (.cells #[.slice none 0 0, .int .i64 0] 49))
          clear H4 hW
          go_wp2_with fail
          rw [HW.out]
          refine (refused_calls B3 d3 x x _ true (Lib.hid (by simp))).mono ?_
          rintro e w' ⟨rfl, rfl⟩
          have c1' := C1.out
          go_wp2_with fail
          refine (rvalid_calls A1 c1 k1 (dg a) _ I1.out.len I1.out.lim (I1.out.rd.below (HB1.out.trans (HBB.out.b.mono HB1.out.size))) true HV).mono ?_
          rintro e w' ⟨rfl, rfl⟩
          go_wp2_with fail
          refine (sanity_at HBB HT2).mono ?_
          rintro e w5 ⟨rfl, H5⟩
          clear HBB
          go_wp2_with fail
          refine (rtext_at H5 A1 k1 c1 (a) (.tail _ (.tail _ (.head _))) e1 t HTT).mono ?_
          rintro e w6 ⟨rfl, H6⟩
          clear H5
          go_wp2_with fail
          go_ret
          exact ⟨rfl, HB1.out.trans (H6.out.b.mono HB1.out.size)⟩
end Go.Proofs.YtfcfejlffmddnaaGreatDoor
end
