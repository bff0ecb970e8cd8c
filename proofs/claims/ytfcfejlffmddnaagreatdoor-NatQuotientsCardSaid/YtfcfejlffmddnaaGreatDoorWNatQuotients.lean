/- The law NatQuotients: its walk. -/
import Derived.Test.YtfcfejlffmddnaaGreatDoorM13
import Derived.RangeFuncBox
import Derived.Maps.AppendAt
import Derived.Laws.Rows
import Derived.Laws.Tables
import Derived.Laws.CopyOwn
section
/- Contracts of the reference: Valid, Cmp. -/
namespace Go.Proofs.YtfcfejlffmddnaaGreatDoor
open Go.RowKit
set_option linter.unusedSimpArgs false
set_option linter.unusedVariables false
set_option linter.constructorNameAsVariable false

set_option maxRecDepth 10000 in
theorem rvalid_calls (A : Option Addr) (c k : Nat) (g : List Int) (w : World) (hk : g.length = k) (hb : k ≤ 9223372036854775807) (hR : Rd .u32 w A g) (b : Bool) (h : Hid (validB g = b)) :
    Calls Tryz.prog 23 #[.slice A k c] w fun e w' => e = .returned (.bool b) ∧ w = w' := by
  have hv := h.out
  unfold validB at hv
  by_cases h1 : k ≤ 1024
  · cases k with
    | zero =>
      have hg : g = [] := List.eq_nil_of_length_eq_zero hk
      obtain rfl : b = true := by rw [← hv, hg]; simp
      clear hv h hR hk hg
      go_enter Tryz.func23, Tryz.ntmps23
      go_wp2
      go_ret
      exact ⟨rfl, rfl⟩
    | succ k =>
      obtain ⟨x, hx⟩ : ∃ x, g[k]? = some x := ⟨_, List.getElem?_eq_getElem (by omega)⟩
      obtain ⟨b1, o, rfl, hcc⟩ := hR (by rintro rfl; simp at hx)
      have hcell := hcc k x hx
      have hl : g.getLast? = some x := by rw [List.getLast?_eq_getElem?, hk]; exact hx
      have hv2 : b = !(x == 0) := by
        rw [← hv, hl, hk]
        by_cases hx0 : x = 0
        · subst hx0; simp
        · rw [show (x == 0) = false from beq_eq_false_iff_ne.2 hx0]
          simp only [Bool.not_false, decide_eq_true_eq]
          exact ⟨h1, fun h => hx0 (Option.some.inj h)⟩
      clear hv h hR hk hcc hx hl
      by_cases hx0 : x = 0
      · subst hx0
        obtain rfl : b = false := by rw [hv2]; rfl
        clear hv2
        go_enter Tryz.func23, Tryz.ntmps23
        go_wp2
        go_ret
        exact ⟨rfl, rfl⟩
      · have hxb : (x == 0) = false := beq_eq_false_iff_ne.2 hx0
        obtain rfl : b = true := by rw [hv2, hxb]; rfl
        clear hv2
        go_enter Tryz.func23, Tryz.ntmps23
        go_wp2
        go_ret
        exact ⟨by simp [hx0, hxb], rfl⟩
  · obtain rfl : b = false := by rw [← hv, hk]; simp [h1]
    clear hv h hR hk
    go_enter Tryz.func23, Tryz.ntmps23
    go_wp2
    go_ret
    exact ⟨rfl, rfl⟩
variable {w0 w : World} {l : List (Option Addr × Nat × Nat × Nat)}
theorem div_top (x m : Nat) : x / 4294967296 ^ m = 4294967296 * (x / 4294967296 ^ (m + 1)) + x / 4294967296 ^ m % 4294967296 := by
  rw [Nat.pow_succ, ← Nat.div_div_eq_div_mul]
  exact (Nat.div_add_mod _ _).symm
theorem cmp_digit {x y m : Nat} (h : x / 4294967296 ^ (m + 1) = y / 4294967296 ^ (m + 1)) :
    (x / 4294967296 ^ m % 4294967296 < y / 4294967296 ^ m % 4294967296 → x < y) ∧ (x / 4294967296 ^ m % 4294967296 = y / 4294967296 ^ m % 4294967296 → x / 4294967296 ^ m = y / 4294967296 ^ m) := by
  have h1 := div_top x m
  have h2 := div_top y m
  rw [h] at h1
  refine ⟨fun h3 => ?_, fun h3 => by omega⟩
  rcases Nat.lt_or_ge x y with h4 | h4
  · exact h4
  · have := Nat.div_le_div_right (c := 4294967296 ^ m) h4
    omega
set_option maxRecDepth 10000 in
set_option maxHeartbeats 1000000 in
theorem rcmp_h (H : Has w0 w l) (A1 : Option Addr) (k1 c1 x : Nat) (A2 : Option Addr) (k2 c2 y : Nat) (h1 : (A1, k1, c1, x) ∈ l) (h2 : (A2, k2, c2, y) ∈ l) (b1 : k1 ≤ 1099511627776) (b2 : k2 ≤ 1099511627776) (r : Int) (hr : Hid (cmpI x y = r)) :
    Calls Tryz.prog 42 #[.slice A1 k1 c1, .slice A2 k2 c2] w fun e w' => e = .returned (.int .i64 r) ∧ w = w' := by
  have e1 := H.len h1
  have e2 := H.len h2
  obtain ⟨N, hN⟩ : ∃ N, max k1 k2 = N := ⟨_, rfl⟩
  have hN2 : max (k1 : Int) (k2 : Int) = (N : Int) := by omega
  have hx0 : x / 4294967296 ^ N = 0 := Nat.div_eq_of_lt (lt_of_len (by omega))
  have hy0 : y / 4294967296 ^ N = 0 := Nat.div_eq_of_lt (lt_of_len (by omega))
  have hA1 := fun (i : Nat) => rat_h H A1 k1 c1 x i h1 b1 _ (Lib.hid (dg_getD x i))
  have hA2 := fun (i : Nat) => rat_h H A2 k2 c2 y i h2 b2 _ (Lib.hid (dg_getD y i))
  have HA1 := Lib.hid hA1
  have HA2 := Lib.hid hA2
  have H0 := Lib.hid (hx0.trans hy0.symm)
  have HN := Lib.hid hN
  have hNb : N ≤ 1099511627776 := by omega
  clear hA1 hA2 hx0 hy0 e1 e2 hN b1 b2 H h1 h2
  go_enter Tryz.func42, Tryz.ntmps42
  go_wp2_with fail
  go_loop [5] (fun v => ∃ m : Nat, m ≤ N ∧ v = .int .i64 ((m : Int) - 1) ∧ Hid (x / 4294967296 ^ m = y / 4294967296 ^ m)) (fun v => (intOf v + 1).toNat)
  case atStart => exact ⟨N, Nat.le_refl _, by first | rfl | (congr 1; omega) | skip, H0⟩
  case round =>
    obtain ⟨m, hm, rfl, he⟩ := hrel
    cases m with
    | zero =>
      obtain rfl : x = y := by simpa using he.out
      obtain rfl : r = 0 := by rw [← hr.out]; unfold cmpI; simp
      clear hr he
      go_wp2_with fail
      go_ret
      exact ⟨rfl, rfl⟩
    | succ m =>
      have hmm : ((m + 1 : Nat) : Int) - 1 = m := by omega
      have hge : decide ((0 : Int) ≤ (m : Int)) = true := decide_eq_true (by omega)
      obtain ⟨xi, hxi⟩ : ∃ xi, x / 4294967296 ^ m % 4294967296 = xi := ⟨_, rfl⟩
      obtain ⟨yi, hyi⟩ : ∃ yi, y / 4294967296 ^ m % 4294967296 = yi := ⟨_, rfl⟩
      have C1 := HA1.out m
      have C2 := HA2.out m
      rw [hxi] at C1
      rw [hyi] at C2
      have D := cmp_digit he.out
      have D2 := cmp_digit he.out.symm
      rw [hxi, hyi] at D D2
      have HD := Lib.hid D
      have HD2 := Lib.hid D2
      clear D D2 he hxi hyi
      rcases Nat.lt_trichotomy xi yi with h | h | h
      · obtain rfl : r = -1 := by rw [← hr.out]; unfold cmpI; rw [if_pos (HD.out.1 h)]
        go_wp2_with fail
        refine C1.mono ?_
        rintro e w' ⟨rfl, rfl⟩
        go_wp2_with fail
        refine C2.mono ?_
        rintro e w' ⟨rfl, rfl⟩
        go_wp2_with fail
        go_ret
        exact ⟨rfl, rfl⟩
      · have HE := Lib.hid (HD.out.2 h)
        subst h
        go_wp2_with fail
        refine C1.mono ?_
        rintro e w' ⟨rfl, rfl⟩
        go_wp2_with fail
        refine C2.mono ?_
        rintro e w' ⟨rfl, rfl⟩
        go_wp2_with fail
        refine C1.mono ?_
        rintro e w' ⟨rfl, rfl⟩
        go_wp2_with fail
        refine C2.mono ?_
        rintro e w' ⟨rfl, rfl⟩
        go_wp2_with fail
        go_round
        case rel => exact ⟨m, by omega, by first | rfl | (congr 1), HE⟩
        case measure => simp [intOf]
      · obtain rfl : r = 1 := by
          have := HD2.out.1 h
          rw [← hr.out]; unfold cmpI; rw [if_neg (by omega), if_pos this]
        have hn : ¬ xi < yi := by omega
        go_wp2_with fail
        refine C1.mono ?_
        rintro e w' ⟨rfl, rfl⟩
        go_wp2_with fail
        refine C2.mono ?_
        rintro e w' ⟨rfl, rfl⟩
        go_wp2_with fail
        refine C1.mono ?_
        rintro e w' ⟨rfl, rfl⟩
        go_wp2_with fail
        refine C2.mono ?_
        rintro e w' ⟨rfl, rfl⟩
        go_wp2_with fail
        go_ret
        exact ⟨rfl, rfl⟩
end Go.Proofs.YtfcfejlffmddnaaGreatDoor
end
section
/- Contracts of the reference: Add. -/
namespace Go.Proofs.YtfcfejlffmddnaaGreatDoor
open Go.RowKit
set_option linter.unusedSimpArgs false
set_option linter.unusedVariables false
set_option linter.constructorNameAsVariable false

theorem own_ge {W : World} {base : Nat} {e : TypeId} {size : Nat} {v : Value} {k : Nat} {xs : List Value} (h : W.ownsRow base e size v k xs) : ∀ j, v.ownBlock = some j → base ≤ j := fun j hj => (h.lt j hj).1
theorem info_u32 : ∃ i, Tryz.prog.info? 57 = some i ∧ i.zero = some (.int .u32 0) ∧ i.size = 1 ∧ i.bytes = 4 := by
  obtain ⟨i, hi, hzz⟩ := Option.map_eq_some_iff.1 info57
  simp only [Prod.mk.injEq] at hzz
  exact ⟨i, hi, hzz.1, hzz.2.1, hzz.2.2⟩
/-- A row of limbs that a loop has made so far. -/
structure Out (w wr : World) (ao : Option Addr) (k cap : Nat) (res : List Int) : Prop where
  row : wr.ownsRow w.heap.size 57 1 (.slice ao k cap) k (res.map (.int .u32))
  bl : Below w.heap.size w wr
  sz : w.heap.size ≤ wr.heap.size
theorem Out.start (w : World) : Out w w none 0 0 [] := ⟨World.ownsRow_nil _ _ _ _, Below.refl _ _, Nat.le_refl _⟩
theorem Out.next {w wr w2 : World} {ao : Option Addr} {k cap : Nat} {res : List Int} (h : Out w wr ao k cap res) {x : Int} {T : TypeId} {ao' : Option Addr} {cap' : Nat}
    (hg : (wr.alloc (.cells #[.int .u32 x] T)).grownBy w2 (Value.slice ao k cap).ownBlock) (ho : w2.ownsRow w.heap.size 57 1 (.slice ao' (k + 1) cap') (k + 1) (res.map (.int .u32) ++ [.int .u32 x])) : Out w w2 ao' (k + 1) cap' (res ++ [x]) := by
  have hs := h.sz
  refine ⟨by simpa using ho, (h.bl.alloc hs _).grown hg (by simp; omega) (fun i hi => own_ge h.row i hi), ?_⟩
  have := hg.size; simp at this; omega
variable {w0 w : World} {l : List (Option Addr × Nat × Nat × Nat)}
/-- The trimmed row is the answer. -/
theorem Out.trim (H : Has w0 w l) {wr : World} {ao : Option Addr} {k cap : Nat} {res : List Int} (h : Out w wr ao k cap res) (hk : res.length = k) (hb : k ≤ 1099511627776) (hd : dgs res) (x : Nat) (hv : vl res = x) (K : Nat) (hK : (dg x).length ≤ K) :
    Calls Tryz.prog 74 #[.slice ao k cap] wr (Made w0 l x K) := by
  obtain ⟨A', c', e, hr, h1, h2⟩ := row_rd hk h.row
  cases e
  refine (rtrim_calls ao cap k res x wr hk h1 h2 hb hd hv hr).mono ?_
  rintro e w' ⟨A2, c2, rfl, hr2, h3, h4, hb2⟩
  exact ⟨A2, _, c2, x, rfl, Lib.hid rfl, hK, ((H.below h.bl).below hb2).cons hr2 rfl h3 h4⟩
set_option maxRecDepth 10000 in
set_option maxHeartbeats 2000000 in
theorem radd_h (H : Has w0 w l) (A1 : Option Addr) (k1 c1 x : Nat) (A2 : Option Addr) (k2 c2 y : Nat) (h1 : (A1, k1, c1, x) ∈ l) (h2 : (A2, k2, c2, y) ∈ l) (b1 : k1 ≤ 10000) (b2 : k2 ≤ 10000) :
    Calls Tryz.prog 43 #[.slice A1 k1 c1, .slice A2 k2 c2] w (Made w0 l (x + y) 10001) := by
  have e1 := Lib.hid (H.len h1)
  have e2 := Lib.hid (H.len h2)
  obtain ⟨i0, hi, hz0, hz1, hz2⟩ := info_u32
  obtain ⟨N, hN⟩ : ∃ N, max k1 k2 = N := ⟨_, rfl⟩
  have hN2 : max (k1 : Int) (k2 : Int) = (N : Int) := by omega
  have hN1 : k1 ≤ N := by omega
  have hN3 : k2 ≤ N := by omega
  have hNb : N ≤ 10000 := by omega
  have HLEN : Hid ((dg (x + y)).length ≤ 10001) := Lib.hid (by have := len_add x y; have := e1.out; have := e2.out; omega)
  have HH := Lib.hid H
  have M1 := Lib.hid h1
  have M2 := Lib.hid h2
  clear hN H h1 h2
  go_enter Tryz.func43, Tryz.ntmps43
  go_wp2_with fail
  go_loopw [5, 6, 7, 8] (fun vo vc vi vs wr => ∃ (i : Nat) (ao : Option Addr) (cap : Nat) (res : List Int) (cy : Int), i ≤ N + 1 ∧ vi = .int .i64 i ∧ vo = .slice ao i cap ∧ vc = .int .u64 cy ∧ 0 ≤ cy ∧ cy ≤ 1 ∧ Hid (AddInv (dg x) (dg y) i res cy) ∧ Hid (Out w wr ao i cap res)) (fun vo vc vi vs wr => N + 1 - (intOf vi).toNat)
  case atStart => exact ⟨0, none, 0, [], 0, by omega, rfl, rfl, rfl, by omega, by omega, Lib.hid (AddInv.start _ _), Lib.hid (Out.start w)⟩
  case round =>
    obtain ⟨i, ao, cap, res, cy, hiN, rfl, rfl, rfl, cy0, cy1, HA, HO⟩ := hrel
    by_cases hlt : i ≤ N
    · obtain ⟨xi, hxi⟩ : ∃ z, (dg x).getD i 0 = z := ⟨_, rfl⟩
      obtain ⟨yi, hyi⟩ : ∃ z, (dg y).getD i 0 = z := ⟨_, rfl⟩
      obtain ⟨x0, x1⟩ := dgs_getD (dgs_dg x) i
      obtain ⟨y0, y1⟩ := dgs_getD (dgs_dg y) i
      rw [hxi] at x0 x1
      rw [hyi] at y0 y1
      have hA := AddInv.step (dgs_dg x) (dgs_dg y) HA.out (xi + yi + cy) (by rw [hxi, hyi]; omega)
      have HAS := Lib.hid hA
      have C1 := rat_h (HH.out.below HO.out.bl) A1 k1 c1 x i M1.out (by omega) xi (Lib.hid hxi)
      have C2 := rat_h (HH.out.below HO.out.bl) A2 k2 c2 y i M2.out (by omega) yi (Lib.hid hyi)
      have hsz := HO.out.sz
      clear hA hxi hyi
      go_wp2_with fail
      refine C1.mono ?_
      rintro e w' ⟨rfl, rfl⟩
      go_wp2_with fail
      refine C2.mono ?_
      rintro e w' ⟨rfl, rfl⟩
      clear C1 C2
      go_wp2_with (at_builtin; refine wpList_append_own _ rfl _ _ 23 rfl w.heap.size 57 i0 (.int .u32 0) 1 4 Tryz.underlying23 hi hz0 hz1 hz2 rfl (by decide) _ _ _ rfl (HO.out.row.alloc _) ⟨wr.heap.size, 0, none⟩ 1 1 [.int .u32 ((xi + yi + cy) % 4294967296)] rfl rfl (cell_one_new _ _ _) (by simp [Value.oneCell']) (by unfold maxLen; omega) (by omega) (by simp; omega) ?_; intro v' w2 hown' hgrow _; have Hg' := Lib.hid (show (wr.alloc (.cells #[.int .u32 ((xi + yi + cy) % 4294967296)] 57)).grownBy w2 (Value.slice ao i cap).ownBlock from hgrow); clear hgrow; obtain ⟨g', cap', rfl⟩ := ownsRow_succ hown'; have HO2 := Lib.hid (HO.out.next Hg'.out hown'); clear hown' Hg')
      go_roundw
      case rel => exact ⟨i + 1, _, cap', _, _, by omega, by go_num, rfl, rfl, by omega, by omega, HAS, HO2⟩
      case measure => simp [intOf]; omega
    · obtain rfl : i = N + 1 := by omega
      have hv := HA.out.fin (by rw [e1.out]; omega) (by rw [e2.out]; omega)
      have HT := Lib.hid (HO.out.trim HH.out HA.out.len (by omega) HA.out.ok (x + y) hv 10001 HLEN.out)
      clear hv
      go_wp2_with fail
      refine HT.out.mono ?_
      rintro e w' ⟨A', k', c', n', rfl, hn, hk, h⟩
      have HF := Lib.hid h
      clear h
      go_wp2_with fail
      go_ret
      exact ⟨A', k', c', n', rfl, hn, hk, HF.out⟩
end Go.Proofs.YtfcfejlffmddnaaGreatDoor
end
section
/- Contracts of the reference: Mul. -/
namespace Go.Proofs.YtfcfejlffmddnaaGreatDoor
open Go.RowKit
set_option linter.unusedSimpArgs false
set_option linter.unusedVariables false
set_option linter.constructorNameAsVariable false

variable {w0 w : World} {l : List (Option Addr × Nat × Nat × Nat)}
set_option maxRecDepth 10000 in
set_option maxHeartbeats 1000000 in
theorem rmul_h (H : Has w0 w l) (A1 : Option Addr) (k1 c1 x : Nat) (A2 : Option Addr) (k2 c2 y : Nat) (h1' : (A1, k1, c1, x) ∈ l) (h2' : (A2, k2, c2, y) ∈ l) (hx : k1 ≤ 10000) (hy : k2 ≤ 10000) :
    Calls Tryz.prog 27 #[.slice A1 k1 c1, .slice A2 k2 c2] w (Made w0 l (x * y) (k1 + k2)) := by
  have hk1 := H.len h1'
  have hk2 := H.len h2'
  obtain ⟨h1, _, _, _⟩ := H.at h1'
  obtain ⟨h2, _, _, _⟩ := H.at h2'
  have HH := Lib.hid H
  have HLEN : Hid ((dg (x * y)).length ≤ k1 + k2) := Lib.hid (by have := len_mul x y; omega)
  clear h1' h2' H
  have m1 := run_make_row' (P := Tryz.prog) 23 57 (.int .u32 0) 4 Tryz.underlying23 info57 rfl .i64 .i64 (k1 + k2) (by omega) (by omega)
  rw [Int.natCast_add] at m1
  have HK1 := Lib.hid hk1
  have HK2 := Lib.hid hk2
  have H1 := Lib.hid h1
  have H2 := Lib.hid h2
  clear hk1 hk2 h1 h2
  go_enter Tryz.func27, Tryz.ntmps27
  go_wp2_with fail
  have HW : Hid (Wr (w.alloc (.cells (madeCells #[.int .u32 0] (k1 + k2)) 57)) w.heap.size 0 (List.replicate (k1 + k2) 0)) := Lib.hid (Wr.made _ _ _)
  have HB : Hid (Below w.heap.size w (w.alloc (.cells (madeCells #[.int .u32 0] (k1 + k2)) 57))) := Lib.hid ((Below.refl _ _).alloc (Nat.le_refl _) _)
  go_loopw [6, 7, 8, 9] (fun v19 v7 v8 v9 wr => ∃ (i : Nat) (out : List Int), i ≤ k1 ∧ v19 = .int .i64 i ∧ Hid (MulOut (dg x) (dg y) i out) ∧ Hid (Wr wr w.heap.size 0 out) ∧ Hid (Below w.heap.size w wr)) (fun v19 v7 v8 v9 wr => k1 - (intOf v19).toNat)
  case atStart => exact ⟨0, List.replicate (k1 + k2) 0, Nat.zero_le _, rfl, Lib.hid (by rw [← HK1.out, ← HK2.out]; exact MulOut.start _ _), HW, HB⟩
  case round =>
    obtain ⟨i, out0, hi, rfl, HA, HW2, HB2⟩ := hrel
    by_cases hlt : i < k1
    · obtain ⟨xi, hxi⟩ : ∃ z, (dg x)[i]? = some z := ⟨_, List.getElem?_eq_getElem (by rw [HK1.out]; exact hlt)⟩
      obtain ⟨x0, x1⟩ := dgs_at (dgs_dg x) hxi
      obtain ⟨b1, o1, rfl, r1⟩ := (H1.out.below HB2.out) (by intro h; rw [h] at hxi; simp at hxi)
      have hcx := r1 i xi hxi
      have HX := Lib.hid hxi
      clear r1 hxi
      go_wp2_with fail
      go_loopw [7, 8, 9] (fun v8 v26 v9 wr => ∃ (k : Nat) (out : List Int) (cy : Int), k ≤ k2 ∧ v26 = .int .i64 k ∧ v8 = .int .u64 cy ∧ 0 ≤ cy ∧ cy < 4294967296 ∧ Hid (MulInv (dg y) out0 xi i k out cy) ∧ Hid (Wr wr w.heap.size 0 out) ∧ Hid (Below w.heap.size w wr)) (fun v8 v26 v9 wr => k2 - (intOf v26).toNat)
      case atStart => exact ⟨0, out0, 0, Nat.zero_le _, rfl, rfl, by omega, by omega, Lib.hid (MulInv.start HA.out.ok), HW2, HB2⟩
      case round =>
        obtain ⟨k, out, cy, hk, rfl, rfl, cy0, cy1, HI, HW3, HB3⟩ := hrel
        by_cases hlk : k < k2
        · obtain ⟨yk, hyk⟩ : ∃ z, (dg y)[k]? = some z := ⟨_, List.getElem?_eq_getElem (by rw [HK2.out]; exact hlk)⟩
          obtain ⟨y0, y1⟩ := dgs_at (dgs_dg y) hyk
          obtain ⟨b2, o2, rfl, r2⟩ := (H2.out.below HB3.out) (by intro h; rw [h] at hyk; simp at hyk)
          have hcy := r2 k yk hyk
          obtain ⟨b1', o1', hb', r1'⟩ := (H1.out.below HB3.out) (by intro h; have := HX.out; rw [h] at this; simp at this)
          cases hb'
          have hcx' := r1' i xi HX.out
          clear r1'
          have hlen : i + k < out.length := by rw [HI.out.len, HA.out.len, HK1.out, HK2.out]; omega
          obtain ⟨zk, hzk⟩ : ∃ z, out[i + k]? = some z := ⟨_, List.getElem?_eq_getElem hlen⟩
          obtain ⟨z0, z1⟩ := dgs_at HI.out.ok hzk
          have hcell := HW3.out (i + k) zk hzk
          rw [Nat.zero_add] at hcell
          obtain ⟨hc1, hc2⟩ := hcell
          obtain ⟨m0, m1⟩ := mul_lt_BB x0 x1 y0 y1
          have hI := MulInv.step (dgs_dg y) x0 x1 HI.out yk zk hyk hzk (xi * yk + zk + cy) (Int.add_comm _ _)
          obtain ⟨pr, hpr⟩ : ∃ p, xi * yk = p := ⟨_, rfl⟩
          rw [hpr] at m0 m1 hI
          have hw : ∀ q, Wr ((wr.drewN q).setCell ⟨w.heap.size, i + k, none⟩ (.int .u32 ((pr + zk + cy) % 4294967296))) w.heap.size 0 (out.set (i + k) ((pr + zk + cy) % 4294967296)) := fun q => by
            have := (HW3.out.drewN q).set (i + k) ((pr + zk + cy) % 4294967296)
            rwa [Nat.zero_add] at this
          have HIS := Lib.hid hI
          have HWS := Lib.hid hw
          have HBS := Lib.hid (fun q => (below_drewN HB3.out q).setCell (p := ⟨w.heap.size, i + k, none⟩) (Nat.le_refl _) (.int .u32 ((pr + zk + cy) % 4294967296)))
          clear hyk hzk r2 hI hw hlen
          go_wp2
          go_quiet (fail)
          go_wp2
          go_roundw
          case rel => exact ⟨k + 1, _, _, by omega, by go_num, rfl, by omega, by omega, HIS, Lib.hid (HWS.out _), Lib.hid (HBS.out _)⟩
          case measure => simp [intOf]; omega
        · obtain rfl : k = k2 := by omega
          have hI := HI.out
          rw [← HK2.out] at hI
          have hO := MulOut.step HX.out HA.out hI
          rw [HK2.out] at hO
          have hlen : i + k < out.length := by rw [HI.out.len, HA.out.len, HK1.out, HK2.out]; omega
          obtain ⟨zk, hzk⟩ : ∃ z, out[i + k]? = some z := ⟨_, List.getElem?_eq_getElem hlen⟩
          have hcell := HW3.out (i + k) zk hzk
          rw [Nat.zero_add] at hcell
          obtain ⟨hc1, hc2⟩ := hcell
          have hcm : cy % 4294967296 = cy := Int.emod_eq_of_lt cy0 cy1
          have hw := HW3.out.set (i + k) cy
          rw [Nat.zero_add] at hw
          have HOS := Lib.hid hO
          have HWS := Lib.hid hw
          have HBS := Lib.hid (HB3.out.setCell (p := ⟨w.heap.size, i + k, none⟩) (Nat.le_refl _) (.int .u32 cy))
          clear hzk hI hO hw hlen
          go_wp2_with fail
          go_roundw
          case rel => exact ⟨i + 1, _, by omega, by go_num, HOS, HWS, HBS⟩
          case measure => simp [intOf]; omega
    · obtain rfl : i = k1 := by omega
      have hO := HA.out
      rw [← HK1.out] at hO
      have hv := MulOut.fin hO
      have hlen : out0.length = i + k2 := by rw [HA.out.len, HK1.out, HK2.out]
      have HL := Lib.hid hlen
      have HV := Lib.hid hv
      clear hO hv hlen
      go_wp2_with fail
      refine (rtrim_calls _ (i + k2) (i + k2) out0 (x * y) _ HL.out (Nat.le_refl _) (by omega) (by omega) HA.out.ok HV.out HW2.out.rd).mono ?_
      rintro e w' ⟨A', c', rfl, hr, h3, h4, hb⟩
      go_wp2_with fail
      go_ret
      exact ⟨A', _, c', x * y, rfl, Lib.hid rfl, HLEN.out, ((HH.out.below HB2.out).below hb).cons hr rfl h3 h4⟩
end Go.Proofs.YtfcfejlffmddnaaGreatDoor
end
section
/- The laws on numbers: entry, bounds. -/
namespace Go.Proofs.YtfcfejlffmddnaaGreatDoor
open Go.RowKit
set_option linter.unusedSimpArgs false
set_option linter.unusedVariables false
set_option linter.constructorNameAsVariable false

variable {w0 w : World} {l : List (Option Addr × Nat × Nat × Nat)}
theorem Lists.three (w : World) (A1 : Option Addr) (k1 c1 : Nat) (g1 : List Int) (A2 : Option Addr) (k2 c2 : Nat) (g2 : List Int) (A3 : Option Addr) (k3 c3 : Nat) (g3 : List Int) (i1 : Inp w A1 k1 c1 g1) (i2 : Inp w A2 k2 c2 g2) (i3 : Inp w A3 k3 c3 g3) :
    Lists (w.alloc (.cells #[.slice A1 k1 c1, .slice A2 k2 c2, .slice A3 k3 c3] 23)) w.heap.size 3 [(A1, k1, c1, g1), (A2, k2, c2, g2), (A3, k3, c3, g3)] := by
  refine ⟨rfl, fun j p hp => ?_, fun p hp => ?_⟩
  · rw [Lib.cell_of_heap (World.alloc_heap_new w _)]
    match j, hp with
    | 0, hp => simp at hp; subst hp; rfl
    | 1, hp => simp at hp; subst hp; rfl
    | 2, hp => simp at hp; subst hp; rfl
  · simp only [List.mem_cons, List.not_mem_nil, or_false] at hp
    rcases hp with rfl | rfl | rfl
    · exact ⟨i1.len, i1.lim, i1.rd.alloc _⟩
    · exact ⟨i2.len, i2.lim, i2.rd.alloc _⟩
    · exact ⟨i3.len, i3.lim, i3.rd.alloc _⟩
/-- A list that is a number of at most m elements. -/
def okB (m k : Nat) (g : List Int) : Bool := decide (k ≤ m) && validB g
theorem okB_num {m : Nat} {A : Option Addr} {k c : Nat} {g : List Int} (hi : Inp w A k c g) (h : okB m k g = true) : ∃ x, g = dg x ∧ k ≤ m ∧ k ≤ 1024 ∧ (dg x).length ≤ m := by
  unfold okB at h
  rw [Bool.and_eq_true] at h
  obtain ⟨x, rfl, hx⟩ := validB_num hi.ok h.2
  have h1 := of_decide_eq_true h.1
  have h2 := hi.len
  exact ⟨x, rfl, h1, by omega, by omega⟩
theorem numbers1 (m : Nat) (A1 : Option Addr) (k1 c1 : Nat) (g1 : List Int) (i1 : Inp w A1 k1 c1 g1) (b : Bool) (hb : Hid (okB m k1 g1 = b)) :
    Calls Tryz.prog 39 #[.int .i64 m, .slice (some ⟨w.heap.size, 0, none⟩) 1 1] (w.alloc (.cells #[.slice A1 k1 c1] 23)) fun e w' => e = .returned (.bool b) ∧ Hid (Has w w' []) :=
  (numbers_calls m _ 1 1 _ _ (Lists.one w A1 k1 c1 g1 i1.rd i1.len i1.lim) (by decide) b (Lib.hid (by rw [← hb.out]; simp [okB]))).mono (fun e w' ⟨he, hw⟩ => ⟨he, Lib.hid (hw ▸ (Has.nil w).alloc _)⟩)
theorem numbers2 (m : Nat) (A1 : Option Addr) (k1 c1 : Nat) (g1 : List Int) (A2 : Option Addr) (k2 c2 : Nat) (g2 : List Int) (i1 : Inp w A1 k1 c1 g1) (i2 : Inp w A2 k2 c2 g2) (b : Bool) (hb : Hid ((okB m k1 g1 && okB m k2 g2) = b)) :
    Calls Tryz.prog 39 #[.int .i64 m, .slice (some ⟨w.heap.size, 0, none⟩) 2 2] (w.alloc (.cells #[.slice A1 k1 c1, .slice A2 k2 c2] 23)) fun e w' => e = .returned (.bool b) ∧ Hid (Has w w' []) :=
  (numbers_calls m _ 2 2 _ _ (Lists.two w A1 k1 c1 g1 A2 k2 c2 g2 i1.rd i2.rd i1.len i2.len i1.lim i2.lim) (by decide) b (Lib.hid (by rw [← hb.out]; simp [okB]))).mono (fun e w' ⟨he, hw⟩ => ⟨he, Lib.hid (hw ▸ (Has.nil w).alloc _)⟩)
theorem numbers3 (m : Nat) (A1 : Option Addr) (k1 c1 : Nat) (g1 : List Int) (A2 : Option Addr) (k2 c2 : Nat) (g2 : List Int) (A3 : Option Addr) (k3 c3 : Nat) (g3 : List Int) (i1 : Inp w A1 k1 c1 g1) (i2 : Inp w A2 k2 c2 g2) (i3 : Inp w A3 k3 c3 g3) (b : Bool) (hb : Hid ((okB m k1 g1 && okB m k2 g2 && okB m k3 g3) = b)) :
    Calls Tryz.prog 39 #[.int .i64 m, .slice (some ⟨w.heap.size, 0, none⟩) 3 3] (w.alloc (.cells #[.slice A1 k1 c1, .slice A2 k2 c2, .slice A3 k3 c3] 23)) fun e w' => e = .returned (.bool b) ∧ Hid (Has w w' []) :=
  (numbers_calls m _ 3 3 _ _ (Lists.three w A1 k1 c1 g1 A2 k2 c2 g2 A3 k3 c3 g3 i1 i2 i3) (by decide) b (Lib.hid (by rw [← hb.out]; simp [okB, Bool.and_assoc]))).mono (fun e w' ⟨he, hw⟩ => ⟨he, Lib.hid (hw ▸ (Has.nil w).alloc _)⟩)
theorem Inp.has {A : Option Addr} {k c x : Nat} (h : Inp w A k c (dg x)) (H : Has w0 w l) : Has w0 w ((A, k, c, x) :: l) := H.cons h.rd h.len h.cap h.capm
theorem lenadd {x y i j : Nat} (hx : (dg x).length ≤ i) (hy : (dg y).length ≤ j) : (dg (x + y)).length ≤ i + j + 1 := by
  refine len_of_lt ?_
  have h1 := lt_of_len hx
  have h2 := lt_of_len hy
  have h3 : 4294967296 ^ i ≤ 4294967296 ^ (i + j) := Nat.pow_le_pow_right (by decide) (by omega)
  have h4 : 4294967296 ^ j ≤ 4294967296 ^ (i + j) := Nat.pow_le_pow_right (by decide) (by omega)
  rw [Nat.pow_succ]
  omega
theorem lenmul {x y i j : Nat} (hx : (dg x).length ≤ i) (hy : (dg y).length ≤ j) : (dg (x * y)).length ≤ i + j := by
  refine len_of_lt ?_
  rw [Nat.pow_add]
  exact Nat.mul_lt_mul'' (lt_of_len hx) (lt_of_len hy)
theorem lenle {x y i : Nat} (h : x ≤ y) (hy : (dg y).length ≤ i) : (dg x).length ≤ i := len_of_lt (Nat.lt_of_le_of_lt h (lt_of_len hy))
theorem subO_add {a b : Nat} (h : (dg a).length ≤ 1024) : subO (a + b) b = (0, a) := by
  unfold subO
  rw [if_neg (by omega), Nat.add_sub_cancel, giv_ok h]
theorem giv_le {n i : Nat} (h : (dg n).length ≤ i) (hi : i ≤ 1024) : giv n = (0, n) := giv_ok (Nat.le_trans h hi)
theorem len_zero : (dg 0).length ≤ 0 := by rw [dg_zero]; exact Nat.le_refl _
theorem len_lit {n : Nat} (h : n < 4294967296 ^ 1) : (dg n).length ≤ 1 := len_of_lt h
end Go.Proofs.YtfcfejlffmddnaaGreatDoor
end
section
/- Contracts of the reference: Pow. -/
namespace Go.Proofs.YtfcfejlffmddnaaGreatDoor
open Go.RowKit
set_option linter.unusedSimpArgs false
set_option linter.unusedVariables false
set_option linter.constructorNameAsVariable false

variable {w0 w : World} {l : List (Option Addr × Nat × Nat × Nat)}
/-- What the reference's Pow answers. -/
def RPow (w0 : World) (l : List (Option Addr × Nat × Nat × Nat)) (a n : Nat) (e : Ending) (w' : World) : Prop :=
  (Hid (giv (a ^ n) = (2, 0)) ∧ e = .returned (.tuple #[.slice none 0 0, .bool false]) ∧ Hid (Has w0 w' l)) ∨
    ∃ A k c, e = .returned (.tuple #[.slice A k c, .bool true]) ∧ k ≤ 1024 ∧ Hid (Has w0 w' ((A, k, c, a ^ n) :: l))
theorem pow_over {a n i : Nat} (ha : 2 ≤ a) (hi : i + 1 ≤ n) (h : ¬ (dg (a ^ (i + 1))).length ≤ 1024) : giv (a ^ n) = (2, 0) :=
  giv_no (fun h2 => h (lenle (Nat.pow_le_pow_right (by omega) hi) h2))
set_option maxRecDepth 10000 in
set_option maxHeartbeats 2000000 in
theorem rpow_h (H : Has w0 w l) (A1 : Option Addr) (k1 c1 a : Nat) (n : Nat) (h1 : (A1, k1, c1, a) ∈ l) (b1 : k1 ≤ 1024) (hn : n ≤ 9223372036854775807) :
    Calls Tryz.prog 25 #[.slice A1 k1 c1, .int .i64 n] w (RPow w0 l a n) := by
  have e1 := Lib.hid (H.len h1)
  have HH := Lib.hid H
  have M1 := Lib.hid h1
  clear H h1
  by_cases hn0 : n = 0
  · subst hn0
    go_enter Tryz.func25, Tryz.ntmps25
    go_wp2_with fail
    go_ret2
    exact Or.inr ⟨_, 1, 1, rfl, by decide, Lib.hid (HH.out.one 1 (by decide) (by decide))⟩
  have hz : ((n : Int) == 0) = false := by simp; omega
  have HO := Lib.hid (HH.out.one 1 (by decide) (by decide))
  by_cases ha1 : a = 1
  · have HA := Lib.hid ha1
    have HS := rsame_h HO.out A1 k1 c1 a _ 1 1 1 (.tail _ M1.out) (.head _) (Nat.le_trans b1 (by decide)) (by decide) true (Lib.hid (decide_eq_true ha1))
    clear ha1
    go_enter Tryz.func25, Tryz.ntmps25
    go_wp2_with fail
    refine HS.mono ?_
    rintro e w1 ⟨rfl, h⟩
    have H1 := Lib.hid h
    clear h
    go_wp2_with fail
    go_ret2
    refine Or.inr ⟨_, 1, 1, rfl, by decide, Lib.hid ?_⟩
    rw [HA.out, Nat.one_pow]
    exact ((H1.out.keep (fun p hp => .tail _ hp)).one 1 (by decide) (by decide))
  have HS := rsame_h HO.out A1 k1 c1 a _ 1 1 1 (.tail _ M1.out) (.head _) (Nat.le_trans b1 (by decide)) (by decide) false (Lib.hid (decide_eq_false ha1))
  by_cases hk : k1 = 0
  · have HA : Hid (a = 0) := Lib.hid ((dg_nil_iff a).1 (by rw [e1.out, hk]))
    subst hk
    clear ha1
    go_enter Tryz.func25, Tryz.ntmps25
    go_wp2_with fail
    refine HS.mono ?_
    rintro e w1 ⟨rfl, h⟩
    have H1 := Lib.hid h
    clear h
    go_wp2_with fail
    go_ret2
    refine Or.inr ⟨A1, 0, c1, rfl, by decide, Lib.hid ?_⟩
    rw [HA.out, Nat.zero_pow (by omega)]
    have hk := H1.out.keep (l' := l) (fun p hp => .tail _ hp)
    have hm := M1.out
    rw [HA.out] at hm
    obtain ⟨r, x1, x2, x3⟩ := hk.at hm
    exact hk.cons r x1 x2 x3
  · have hk0 : ((k1 : Int) == 0) = false := by simp; omega
    have ha2 : Hid (2 ≤ a) := Lib.hid (by
      have : a ≠ 0 := fun h => by
        have := e1.out
        rw [h, dg_zero] at this
        exact hk this.symm
      omega)
    clear ha1 hk
    go_enter Tryz.func25, Tryz.ntmps25
    go_wp2_with fail
    refine HS.mono ?_
    rintro e w1 ⟨rfl, h⟩
    have H1 := Lib.hid (h.keep (l' := l) (fun p hp => .tail _ hp))
    clear h HS HO
    have H2 := Lib.hid (H1.out.one 1 (by decide) (by decide))
    go_wp2_with fail
    go_loopw [6, 7] (fun vo vi wr => ∃ (i : Nat) (A : Option Addr) (k c : Nat), i ≤ n ∧ vi = .int .i64 i ∧ vo = .slice A k c ∧ k ≤ 1024 ∧ Hid (Has w0 wr ((A, k, c, a ^ i) :: l))) (fun vo vi wr => n - (intOf vi).toNat)
    case atStart => exact ⟨0, _, 1, 1, Nat.zero_le _, rfl, rfl, by decide, by rw [Nat.pow_zero]; exact H2⟩
    case round =>
      obtain ⟨i, A, k, c, hi, rfl, rfl, hkb, HI⟩ := hrel
      by_cases hlt : i < n
      · go_wp2_with fail
        refine (rmul_h HI.out A k c (a ^ i) A1 k1 c1 a (.head _) (.tail _ M1.out) (by omega) (by omega)).mono ?_
        rintro e w2 ⟨A', k', c', n', rfl, hn', hk', h⟩
        rw [hn'.out] at h
        have hlen := h.len (.head _)
        have HX := Lib.hid (show Has w0 w2 ((A', k', c', a ^ (i + 1)) :: l) by
          rw [Nat.pow_succ]
          exact h.keep (fun p hp => by
            rcases List.mem_cons.1 hp with rfl | hp
            · exact .head _
            · exact .tail _ (.tail _ hp)))
        clear h hn'
        by_cases hf : k' ≤ 1024
        · clear hlen
          go_wp2_with fail
          refine (fits_calls A' k' c' _ true (Lib.hid (decide_eq_true hf))).mono ?_
          rintro e w' ⟨rfl, rfl⟩
          go_wp2_with fail
          go_roundw
          case rel => exact ⟨i + 1, A', k', c', by omega, by go_num, rfl, hf, HX⟩
          case measure => simp [intOf]; omega
        · have HG := Lib.hid (pow_over (n := n) ha2.out (by omega : i + 1 ≤ n) (by rw [HX.out.len (.head _)]; exact hf))
          clear hlen
          go_wp2_with fail
          refine (fits_calls A' k' c' _ false (Lib.hid (decide_eq_false hf))).mono ?_
          rintro e w' ⟨rfl, rfl⟩
          go_wp2_with fail
          go_ret2
          exact Or.inl ⟨HG, rfl, Lib.hid (HX.out.keep (fun p hp => .tail _ hp))⟩
      · obtain rfl : n = i := by omega
        go_wp2_with fail
        go_ret2
        exact Or.inr ⟨A, k, c, rfl, hkb, HI⟩
end Go.Proofs.YtfcfejlffmddnaaGreatDoor
end
section
/- Contracts of the reference: above. -/
namespace Go.Proofs.YtfcfejlffmddnaaGreatDoor
open Go.RowKit
set_option linter.unusedSimpArgs false
set_option linter.unusedVariables false
set_option linter.constructorNameAsVariable false

variable {w0 w : World} {l : List (Option Addr × Nat × Nat × Nat)}
theorem cmpI_gt (a b : Nat) : (b < a ∧ cmpI a b = 1) ∨ (a ≤ b ∧ ∃ r : Int, cmpI a b = r ∧ ¬ 0 < r) := by
  unfold cmpI
  by_cases h : b < a
  · left; refine ⟨h, ?_⟩; rw [if_neg (by omega), if_pos h]
  · right; refine ⟨by omega, _, rfl, ?_⟩; split <;> first | decide | (rw [if_neg h]; decide)
set_option maxRecDepth 10000 in
set_option maxHeartbeats 2000000 in
theorem rabove_h (H : Has w0 w l) (A1 : Option Addr) (k1 c1 x : Nat) (n : Nat) (A2 : Option Addr) (k2 c2 a : Nat) (h1 : (A1, k1, c1, x) ∈ l) (h2 : (A2, k2, c2, a) ∈ l) (b1 : k1 ≤ 1024) (b2 : k2 ≤ 1024) (hn : n ≤ 9223372036854775807) (hx : Hid (1 ≤ x)) (ha : Hid (1 ≤ a)) (b : Bool) (hb : Hid (decide (a < x ^ n) = b)) :
    Calls Tryz.prog 84 #[.slice A1 k1 c1, .int .i64 n, .slice A2 k2 c2] w fun e w' => e = .returned (.bool b) ∧ Hid (Has w0 w' l) := by
  have HH := Lib.hid H
  have M1 := Lib.hid h1
  have M2 := Lib.hid h2
  have e2 := Lib.hid (H.len h2)
  have H2 := Lib.hid (HH.out.one 1 (by decide) (by decide))
  clear H h1 h2
  go_enter Tryz.func84, Tryz.ntmps84
  go_wp2_with fail
  go_loopw [7, 8] (fun vo vi wr => ∃ (i : Nat) (A : Option Addr) (k c : Nat), i ≤ n ∧ vi = .int .i64 i ∧ vo = .slice A k c ∧ k ≤ 1024 ∧ Hid (x ^ i ≤ a) ∧ Hid (Has w0 wr ((A, k, c, x ^ i) :: l))) (fun vo vi wr => n - (intOf vi).toNat)
  case atStart => exact ⟨0, _, 1, 1, Nat.zero_le _, rfl, rfl, by decide, by rw [Nat.pow_zero]; exact ha, by rw [Nat.pow_zero]; exact H2⟩
  case round =>
    obtain ⟨i, A, k, c, hi, rfl, rfl, hkb, HL, HI⟩ := hrel
    by_cases hlt : i < n
    · go_wp2_with fail
      refine (rmul_h HI.out A k c (x ^ i) A1 k1 c1 x (.head _) (.tail _ M1.out) (by omega) (by omega)).mono ?_
      rintro e w2 ⟨A', k', c', n', rfl, hn', hk', h⟩
      rw [hn'.out] at h
      have HX := Lib.hid (show Has w0 w2 ((A', k', c', x ^ (i + 1)) :: l) by
        rw [Nat.pow_succ]
        exact h.keep (fun p hp => by
          rcases List.mem_cons.1 hp with rfl | hp
          · exact .head _
          · exact .tail _ (.tail _ hp)))
      clear h hn'
      rcases cmpI_gt (x ^ (i + 1)) a with ⟨hg, hc⟩ | ⟨hg, r, hc, hr⟩
      · obtain rfl : b = true := by
          rw [← hb.out]
          exact decide_eq_true (Nat.lt_of_lt_of_le hg (Nat.pow_le_pow_right hx.out hlt))
        have HC := Lib.hid hc
        clear hc hg
        go_wp2_with fail
        refine (rcmp_h HX.out A' k' c' (x ^ (i + 1)) A2 k2 c2 a (.head _) (.tail _ M2.out) (by omega) (by omega) 1 HC).mono ?_
        rintro e w' ⟨rfl, rfl⟩
        go_wp2_with fail
        go_ret
        exact ⟨rfl, Lib.hid (HX.out.keep (fun p hp => .tail _ hp))⟩
      · have hk2 : k' ≤ 1024 := by
          have := HX.out.len (.head _)
          have h3 := lenle hg (Nat.le_of_eq e2.out)
          omega
        have HC := Lib.hid hc
        have HG := Lib.hid hg
        clear hc hg
        go_wp2_with fail
        refine (rcmp_h HX.out A' k' c' (x ^ (i + 1)) A2 k2 c2 a (.head _) (.tail _ M2.out) (by omega) (by omega) r HC).mono ?_
        rintro e w' ⟨rfl, rfl⟩
        go_wp2_with fail
        go_roundw
        case rel => exact ⟨i + 1, A', k', c', by omega, by go_num, rfl, hk2, HG, HX⟩
        case measure => simp [intOf]; omega
    · obtain rfl : n = i := by omega
      obtain rfl : b = false := by rw [← hb.out]; exact decide_eq_false (by have := HL.out; omega)
      go_wp2_with fail
      go_ret
      exact ⟨rfl, Lib.hid (HI.out.keep (fun p hp => .tail _ hp))⟩
end Go.Proofs.YtfcfejlffmddnaaGreatDoor
end
section
/- A result cell of two slices. -/
namespace Go.Proofs.YtfcfejlffmddnaaGreatDoor
open Go.RowKit
set_option linter.unusedSimpArgs false
set_option linter.unusedVariables false
set_option linter.constructorNameAsVariable false

variable {w0 w : World} {l : List (Option Addr × Nat × Nat × Nat)}
/-- A cell of two slices. -/
def DCell (w : World) (b : Nat) (v1 v2 : Value) : Prop := (∃ T, w.heap[b]? = some (.cells #[v1, v2] T (0, 0))) ∧ (∀ n, v1 ≠ .int .u32 n) ∧ (∀ n, v2 ≠ .int .u32 n)
theorem DCell.below {w w' : World} {B b : Nat} {v1 v2 : Value} (h : DCell w b v1 v2) (hlt : b < B) (hb : Below B w w') : DCell w' b v1 v2 := by
  obtain ⟨⟨T, h1⟩, h2, h3⟩ := h
  exact ⟨⟨T, (hb.block b hlt).trans h1⟩, h2, h3⟩
theorem DCell.new (w : World) (T : TypeId) : DCell (w.alloc (.cells #[.slice none 0 0, .slice none 0 0] T)) w.heap.size (.slice none 0 0) (.slice none 0 0) :=
  ⟨⟨T, World.alloc_heap_new w _⟩, (fun n => by simp), (fun n => by simp)⟩
theorem Rd.setRow {w : World} {A : Option Addr} {g : List Int} {b : Nat} {v1 v2 : Value} (h : Rd .u32 w A g) (hD : DCell w b v1 v2) (cs : Array Value) : Rd .u32 (w.setRow b cs) A g := fun hn => by
  obtain ⟨b1, o, e, hc⟩ := h hn
  obtain ⟨⟨T, h1⟩, h2, h3⟩ := hD
  refine ⟨b1, o, e, fun j y hy => ?_⟩
  have hcj := hc j y hy
  rw [cell_setRow_other]
  · exact hcj
  · intro hq
    have hq' : b1 = b := hq
    subst hq'
    rw [Lib.cell_of_heap h1] at hcj
    obtain ⟨i, hi⟩ : ∃ i, o + j = i := ⟨_, rfl⟩
    rw [hi] at hcj
    match i, hcj with
    | 0, hcj => exact h2 y (by simpa using hcj)
    | 1, hcj => exact h3 y (by simpa using hcj)
    | i + 2, hcj => simp at hcj
/-- The struct is laid into the result cell: what was alive stays alive. -/
theorem has_cell (H : Has w0 w l) {w1 W : World} (T : TypeId) (hw : w.alloc (.cells #[.slice none 0 0, .slice none 0 0] T) = w1) {l' : List (Option Addr × Nat × Nat × Nat)} (HW : Has w1 W l') (cs : Array Value) : Has w0 (W.setRow w.heap.size cs) l' := by
  have hs : w1.heap.size = w.heap.size + 1 := by rw [← hw]; simp
  have hD : DCell W w.heap.size (.slice none 0 0) (.slice none 0 0) := DCell.below (by rw [← hw]; exact DCell.new w T) (by omega) HW.b
  have hb : Below w0.heap.size w0 W := H.b.trans (((show Below w.heap.size w w1 by rw [← hw]; exact (Below.refl _ w).alloc (Nat.le_refl _) _).trans (HW.b.mono (by omega))).mono H.b.size)
  exact ⟨below_setRow hb H.b.size cs, fun p hp => ⟨(HW.r p hp).1.setRow hD cs, (HW.r p hp).2⟩⟩
theorem DCell.row {w W w1 : World} (T : TypeId) (hw : w.alloc (.cells #[.slice none 0 0, .slice none 0 0] T) = w1) {l' : List (Option Addr × Nat × Nat × Nat)} (HW : Has w1 W l') : W.heap[w.heap.size]? = some (.cells #[.slice none 0 0, .slice none 0 0] T (0, 0)) := by
  have hs : w1.heap.size = w.heap.size + 1 := by rw [← hw]; simp
  rw [HW.b.block _ (by omega), ← hw]
  exact World.alloc_heap_new w _
end Go.Proofs.YtfcfejlffmddnaaGreatDoor
end
section
/- Contracts of the reference: Shr. -/
namespace Go.Proofs.YtfcfejlffmddnaaGreatDoor
open Go.RowKit
set_option linter.unusedSimpArgs false
set_option linter.unusedVariables false
set_option linter.constructorNameAsVariable false

/-- The first digits of a number. -/
structure Digs (m j : Nat) (res : List Int) : Prop where
  len : res.length = j
  dig : ∀ t y, res[t]? = some y → y = ((m / 4294967296 ^ t % 4294967296 : Nat) : Int)
theorem Digs.start (m : Nat) : Digs m 0 [] := ⟨rfl, fun t y h => by simp at h⟩
theorem Digs.next {m j : Nat} {res : List Int} (h : Digs m j res) : Digs m (j + 1) (res ++ [((m / 4294967296 ^ j % 4294967296 : Nat) : Int)]) := by
  refine ⟨by simp [h.len], fun t y hy => ?_⟩
  rw [List.getElem?_append] at hy
  split at hy
  · exact h.dig t y hy
  · rw [List.getElem?_singleton] at hy
    split at hy
    · have : t = j := by have := h.len; omega
      subst this
      injection hy with hy; exact hy.symm
    · cases hy
theorem Digs.ok {m j : Nat} {res : List Int} (h : Digs m j res) : dgs res := fun y hy => by
  obtain ⟨t, ht⟩ := List.mem_iff_getElem?.1 hy
  rw [h.dig t y ht]
  have : m / 4294967296 ^ t % 4294967296 < 4294967296 := Nat.mod_lt _ (by decide)
  omega
theorem Digs.fin {m j : Nat} {res : List Int} (h : Digs m j res) (hm : m < 4294967296 ^ j) : vl res = m := by
  rw [vl_of_digits res m h.dig, h.len, Nat.mod_eq_of_lt hm]
/-- The digit that Shr lays. -/
theorem rshr_digit (a q r j : Nat) (hr : r < 32) :
    ((a / 4294967296 ^ (q + j + 1) % 4294967296 * 4294967296 + a / 4294967296 ^ (q + j) % 4294967296) / 2 ^ r) % 4294967296 = a / 2 ^ (32 * q + r) / 4294967296 ^ j % 4294967296 := by
  obtain ⟨y, hy⟩ : ∃ y, a / 4294967296 ^ (q + j) = y := ⟨_, rfl⟩
  have h1 : a / 4294967296 ^ (q + j + 1) = y / 4294967296 := by rw [Nat.pow_succ, ← Nat.div_div_eq_div_mul, hy]
  have h2 : a / 2 ^ (32 * q + r) / 4294967296 ^ j = y / 2 ^ r := by
    rw [← hy, Nat.div_div_eq_div_mul, Nat.div_div_eq_div_mul]
    congr 1
    rw [Nat.pow_add 2, Nat.pow_add 4294967296, ← pow32 q]
    rw [Nat.mul_assoc, Nat.mul_assoc, Nat.mul_comm (2 ^ r)]
  rw [h1, h2, hy]
  obtain ⟨s, hs⟩ : ∃ s, 32 = r + s := ⟨32 - r, by omega⟩
  have h3 : (4294967296 : Nat) = 2 ^ r * 2 ^ s := by rw [← Nat.pow_add, ← hs]
  have h4 : y / 4294967296 % 4294967296 * 4294967296 + y % 4294967296 = y % (4294967296 * 4294967296) := by omega
  rw [h4]
  have h5 : y % (4294967296 * 4294967296) = y % (2 ^ r * (2 ^ s * 4294967296)) := by rw [← Nat.mul_assoc, ← h3]
  rw [h5, Nat.mod_mul_right_div_self, Nat.mul_comm (2 ^ s), Nat.mod_mul_right_mod]
variable {w0 w : World} {l : List (Option Addr × Nat × Nat × Nat)}
set_option maxRecDepth 10000 in
set_option maxHeartbeats 2000000 in
theorem rshr_h (H : Has w0 w l) (A1 : Option Addr) (k1 c1 x : Nat) (n : Nat) (h1 : (A1, k1, c1, x) ∈ l) (b1 : k1 ≤ 10000) (hn : n ≤ 9223372036854775807) :
    Calls Tryz.prog 52 #[.slice A1 k1 c1, .int .i64 n] w (Made w0 l (x / 2 ^ n) k1) := by
  have e1 := Lib.hid (H.len h1)
  obtain ⟨i0, hi, hz0, hz1, hz2⟩ := info_u32
  obtain ⟨q, hq⟩ : ∃ q, n / 32 = q := ⟨_, rfl⟩
  obtain ⟨r, hr⟩ : ∃ r, n % 32 = r := ⟨_, rfl⟩
  have hnq : n = 32 * q + r := by omega
  have hr32 : r < 32 := by omega
  have x1 : (n : Int).tdiv 32 = (q : Int) := by rw [Int.tdiv_eq_ediv_of_nonneg (by omega)]; omega
  have x2 : (n : Int).tmod 32 = (r : Int) := by rw [Int.tmod_eq_emod_of_nonneg (by omega)]; omega
  have x3 : wrap64 (q : Int) = (q : Int) := by unfold wrap64; omega
  have HLEN : Hid ((dg (x / 2 ^ n)).length ≤ k1) := Lib.hid (lenle (Nat.div_le_self _ _) (Nat.le_of_eq e1.out))
  have HH := Lib.hid H
  have M1 := Lib.hid h1
  have HQ := Lib.hid hnq
  clear H h1 hq hr hnq
  by_cases hqk : k1 ≤ q
  · have HZ : Hid (x / 2 ^ n = 0) := Lib.hid (by
      rw [HQ.out, Nat.pow_add, ← Nat.div_div_eq_div_mul, ← pow32]
      have h1 := lt_of_len (Nat.le_of_eq e1.out)
      have h2 : 4294967296 ^ k1 ≤ 4294967296 ^ q := Nat.pow_le_pow_right (by decide) hqk
      rw [Nat.div_eq_of_lt (Nat.lt_of_lt_of_le h1 h2), Nat.zero_div])
    have hge : decide ((k1 : Int) ≤ (q : Int)) = true := decide_eq_true (by omega)
    go_enter Tryz.func52, Tryz.ntmps52
    go_wp2_with fail
    go_ret
    exact ⟨none, 0, 0, 0, rfl, Lib.hid HZ.out.symm, Nat.zero_le _, HH.out.zero⟩
  · have hge : decide ((k1 : Int) ≤ (q : Int)) = false := decide_eq_false (by omega)
    have hqk' : q < k1 := by omega
    go_enter Tryz.func52, Tryz.ntmps52
    go_wp2_with fail
    go_loopw [5, 6, 7] (fun vo vi vs wr => ∃ (j : Nat) (ao : Option Addr) (cap : Nat) (res : List Int), q + j ≤ k1 ∧ vi = .int .i64 ((q + j : Nat) : Int) ∧ vo = .slice ao j cap ∧ Hid (Digs (x / 2 ^ n) j res) ∧ Hid (Out w wr ao j cap res)) (fun vo vi vs wr => k1 - (intOf vi).toNat)
    case atStart => exact ⟨0, none, 0, [], by omega, rfl, rfl, Lib.hid (Digs.start _), Lib.hid (Out.start w)⟩
    case round =>
      obtain ⟨j, ao, cap, res, hj, rfl, rfl, HA, HO⟩ := hrel
      by_cases hlt : q + j < k1
      · have C1 := rat_h (HH.out.below HO.out.bl) A1 k1 c1 x (q + j + 1) M1.out (by omega) _ (Lib.hid (dg_getD x (q + j + 1)))
        have C2 := rat_h (HH.out.below HO.out.bl) A1 k1 c1 x (q + j) M1.out (by omega) _ (Lib.hid (dg_getD x (q + j)))
        have hD := rshr_digit x q r j hr32
        have hA := HA.out.next
        rw [HQ.out, ← hD] at hA
        obtain ⟨hi1, hh1⟩ : ∃ z, x / 4294967296 ^ (q + j + 1) % 4294967296 = z := ⟨_, rfl⟩
        obtain ⟨lo1, hl1⟩ : ∃ z, x / 4294967296 ^ (q + j) % 4294967296 = z := ⟨_, rfl⟩
        have g1 : hi1 < 4294967296 := by rw [← hh1]; exact Nat.mod_lt _ (by decide)
        have g2 : lo1 < 4294967296 := by rw [← hl1]; exact Nat.mod_lt _ (by decide)
        rw [hh1] at C1 hA
        rw [hl1] at C2 hA
        obtain ⟨y, hy⟩ : ∃ y, (hi1 * 4294967296 + lo1) / 2 ^ r = y := ⟨_, rfl⟩
        rw [hy] at hA
        have f1 : ((hi1 : Int) * 4294967296 + (lo1 : Int)) / 2 ^ r = (y : Int) := by rw [← hy, Int.natCast_ediv, Int.natCast_add, Int.natCast_mul, Int.natCast_pow]; rfl
        have f2 : (y : Int) % 4294967296 = ((y % 4294967296 : Nat) : Int) := by omega
        have HAS := Lib.hid (show Digs (x / 2 ^ n) (j + 1) (res ++ [((y % 4294967296 : Nat) : Int)]) by rw [HQ.out]; exact hA)
        have hsz := HO.out.sz
        have hij : (((q + j : Nat) : Int) + 1) = ((q + j + 1 : Nat) : Int) := by omega
        obtain ⟨X, hX⟩ : ∃ X : Int, ((y % 4294967296 : Nat) : Int) = X := ⟨_, rfl⟩
        rw [hX] at HAS f2
        clear hA hD hh1 hl1 hy hX
        go_wp2_with fail
        refine C1.mono ?_
        rintro e w' ⟨rfl, rfl⟩
        go_wp2_with fail
        refine C2.mono ?_
        rintro e w' ⟨rfl, rfl⟩
        clear C1 C2
        go_wp2_with (at_builtin; refine wpList_append_own _ rfl _ _ 23 rfl w.heap.size 57 i0 (.int .u32 0) 1 4 Tryz.underlying23 hi hz0 hz1 hz2 rfl (by decide) _ _ _ rfl (HO.out.row.alloc _) ⟨wr.heap.size, 0, none⟩ 1 1 [.int .u32 X] rfl rfl (cell_one_new _ _ _) (by simp [Value.oneCell']) (by unfold maxLen; omega) (by omega) (by simp; omega) ?_; intro v' w2 hown' hgrow _; have Hg' := Lib.hid (show (wr.alloc (.cells #[.int .u32 X] 57)).grownBy w2 (Value.slice ao j cap).ownBlock from hgrow); clear hgrow; obtain ⟨g', cap', rfl⟩ := ownsRow_succ hown'; have HO2 := Lib.hid (HO.out.next Hg'.out hown'); clear hown' Hg')
        go_roundw
        case rel => exact ⟨j + 1, _, cap', _, by omega, by first | rfl | go_num | (congr 1), rfl, HAS, HO2⟩
        case measure => simp [intOf]; omega
      · obtain ⟨j', rfl⟩ : ∃ j', j' = j := ⟨_, rfl⟩
        have hkj : k1 = q + j' := by omega
        have hm : x / 2 ^ n < 4294967296 ^ j' := by
          rw [HQ.out, Nat.pow_add, ← Nat.div_div_eq_div_mul, ← pow32]
          refine Nat.lt_of_le_of_lt (Nat.div_le_self _ _) ?_
          refine Nat.div_lt_of_lt_mul ?_
          rw [← Nat.pow_add, ← hkj]
          exact lt_of_len (Nat.le_of_eq e1.out)
        have HT := Lib.hid (HO.out.trim HH.out HA.out.len (by omega) HA.out.ok (x / 2 ^ n) (HA.out.fin hm) k1 HLEN.out)
        have hnl : ¬ q + j' < k1 := hlt
        clear hm hkj
        go_wp2_with fail
        refine HT.out.mono ?_
        rintro e w' ⟨A', k', c', n', rfl, hn, hk, h⟩
        have HF := Lib.hid h
        clear h
        go_wp2_with fail
        go_ret
        exact ⟨A', k', c', n', rfl, hn, hk, HF.out⟩
end Go.Proofs.YtfcfejlffmddnaaGreatDoor
end
section
/- Contracts of the reference: Shl. -/
namespace Go.Proofs.YtfcfejlffmddnaaGreatDoor
open Go.RowKit
set_option linter.unusedSimpArgs false
set_option linter.unusedVariables false
set_option linter.constructorNameAsVariable false

theorem made_take (q c : Nat) (hqc : q ≤ c) : (madeCells #[(.int .u32 0 : Value)] c).toList.take q = (List.replicate q (0 : Int)).map (.int .u32) := by
  apply List.ext_getElem?
  intro i
  rw [List.getElem?_take, List.getElem?_map, List.getElem?_replicate]
  by_cases h : i < q
  · rw [if_pos h, if_pos h]
    have hc : i < c := by omega
    simp [madeCells, hc, Nat.mod_one]
  · rw [if_neg h, if_neg h]; rfl
theorem Out.made (w : World) (q c : Nat) (hqc : q ≤ c) (hc : c ≤ 9223372036854775807) : Out w (w.alloc (.cells (madeCells #[.int .u32 0] c) 57)) (some ⟨w.heap.size, 0, none⟩) q c (List.replicate q 0) :=
  ⟨⟨by simp, .inr ⟨w.heap.size, c, _, rfl, Nat.le_refl _, World.alloc_heap_new w _, hqc, by unfold maxLen; omega, by rw [size_madeCells, Nat.mul_one], by rw [Nat.mul_one]; exact made_take q c hqc⟩⟩,
    (Below.refl _ _).alloc (Nat.le_refl _) _, by simp⟩
theorem make_cap (q c : Nat) (hqc : q ≤ c) (hc : c ≤ 1000000) (W : World) :
    (Instr.makeSlice 23 (.int .i64 (q : Int)) (.int .i64 (c : Int))).run Tryz.prog W = .ok (.slice (some ⟨W.heap.size, 0, none⟩) q c) (W.alloc (.cells (madeCells #[.int .u32 0] c) 57)) := by
  obtain ⟨i0, hi, hz0, hz1, hz2⟩ := info_u32
  have hr := run_make (P := Tryz.prog) W 23 57 i0 (.int .u32 0) Tryz.underlying23 hi hz0 .i64 .i64 q c (by omega) (by omega) (by rw [hz2]; omega) (by omega)
  simp only [Int.toNat_natCast, hz1, Nat.mul_one] at hr
  exact hr
variable {w0 w : World} {l : List (Option Addr × Nat × Nat × Nat)}
set_option maxRecDepth 10000 in
set_option maxHeartbeats 2000000 in
theorem rshl_h (H : Has w0 w l) (A1 : Option Addr) (k1 c1 x : Nat) (n : Nat) (h1 : (A1, k1, c1, x) ∈ l) (b1 : k1 ≤ 10000) (hn : n ≤ 9223372036854775807) (hn0 : k1 ≠ 0 → n ≤ 100000) :
    Calls Tryz.prog 53 #[.slice A1 k1 c1, .int .i64 n] w (Made w0 l (x * 2 ^ n) 20000) := by
  have e1 := Lib.hid (H.len h1)
  by_cases hk : k1 = 0
  · have hx : x = 0 := (dg_nil_iff x).1 (by rw [e1.out, hk])
    subst hk
    subst hx
    have HH := Lib.hid H
    have M1 := Lib.hid h1
    clear H h1
    go_enter Tryz.func53, Tryz.ntmps53
    go_wp2_with fail
    go_ret
    obtain ⟨r1, e, p, q⟩ := HH.out.at M1.out
    exact ⟨A1, 0, c1, 0, rfl, Lib.hid (by rw [Nat.zero_mul]), by omega, HH.out.cons r1 e p q⟩
  · have hn1 := hn0 hk
    have hk0 : ((k1 : Int) == 0) = false := by simp; omega
    obtain ⟨i0, hi, hz0, hz1, hz2⟩ := info_u32
    obtain ⟨q, hq⟩ : ∃ q, n / 32 = q := ⟨_, rfl⟩
    obtain ⟨r, hr⟩ : ∃ r, n % 32 = r := ⟨_, rfl⟩
    have hnq : n = 32 * q + r := by omega
    have hr32 : r < 32 := by omega
    have hq2 : q ≤ 3125 := by omega
    have m1 := make_cap q (q + k1 + 1) (by omega) (by omega)
    rw [show ((q + k1 + 1 : Nat) : Int) = (q : Int) + (k1 : Int) + 1 by omega] at m1
    have HLEN : Hid ((dg (x * 2 ^ n)).length ≤ 20000) := Lib.hid (by
      have h1 := len_mul x (2 ^ n)
      obtain ⟨K, hK⟩ : ∃ K, K = 3126 := ⟨_, rfl⟩
      have h2 : (dg (2 ^ n)).length ≤ K := by
        refine len_of_lt ?_
        rw [pow32]
        exact Nat.pow_lt_pow_right (by decide) (by omega)
      have := e1.out
      omega)
    have x1 : (n : Int).tdiv 32 = (q : Int) := by rw [Int.tdiv_eq_ediv_of_nonneg (by omega)]; omega
    have x2 : (n : Int).tmod 32 = (r : Int) := by rw [Int.tmod_eq_emod_of_nonneg (by omega)]; omega
    have x3 : wrap64 (q : Int) = (q : Int) := by unfold wrap64; omega
    have HH := Lib.hid H
    have M1 := Lib.hid h1
    have HQ := Lib.hid hnq
    obtain ⟨r1, _, _, _⟩ := H.at h1
    obtain ⟨b, o, rfl, hcc⟩ := r1 (by intro h; rw [← List.length_eq_zero_iff, e1.out] at h; exact hk h)
    have HC := Lib.hid hcc
    clear H h1 hq hr hnq r1 hk hcc
    go_enter Tryz.func53, Tryz.ntmps53
    go_wp2_with fail
    go_loopw [5, 6, 7, 8] (fun vo vc vi vs wr => ∃ (i : Nat) (ao : Option Addr) (cap : Nat) (res : List Int) (cy : Int), i ≤ k1 ∧ vi = .int .i64 i ∧ vo = .slice ao (q + i) cap ∧ vc = .int .u64 cy ∧ 0 ≤ cy ∧ cy < 4294967296 ∧ Hid (ShlInv (dg x) q r i res cy) ∧ Hid (Out w wr ao (q + i) cap res)) (fun vo vc vi vs wr => k1 - (intOf vi).toNat)
    case atStart => exact ⟨0, _, _, _, 0, by omega, rfl, rfl, rfl, by omega, by omega, Lib.hid (ShlInv.start _ _ _), Lib.hid (Out.made w q (q + k1 + 1) (by omega) (by omega))⟩
    case round =>
      obtain ⟨i, ao, cap, res, cy, hiN, rfl, rfl, rfl, cy0, cy1, HA, HO⟩ := hrel
      by_cases hlt : i < k1
      · obtain ⟨xi, hxi⟩ : ∃ z, (dg x)[i]? = some z := ⟨_, List.getElem?_eq_getElem (by rw [e1.out]; exact hlt)⟩
        obtain ⟨y0, y1⟩ := dgs_at (dgs_dg x) hxi
        have hcx := HC.out i xi hxi
        have hlt1 := World.block_lt_of_cell? w _ hcx
        rw [← HO.out.bl.cell (p := ⟨b, o + i, none⟩) hlt1] at hcx
        have hA := ShlInv.step (dgs_dg x) HA.out xi hxi (xi * 2 ^ r + cy) (Int.add_comm _ _)
        have hc3 := hA.c1
        have hc4 := hA.c0
        have hp := pow2_32 (show r ≤ 32 by omega)
        have HAS := Lib.hid hA
        have hsz := HO.out.sz
        have hp2 := pow2_pos r
        have hm1 : xi * 2 ^ r ≤ 4294967295 * 4294967296 := Int.mul_le_mul (by omega) hp (by omega) (by omega)
        have hm0 : 0 ≤ xi * 2 ^ r := Int.mul_nonneg y0 (by omega)
        obtain ⟨p, hp3⟩ : ∃ p, xi * 2 ^ r = p := ⟨_, rfl⟩
        rw [hp3] at hm1 hm0 hc3 hc4
        have f1 : IntKind.u64.wrap (xi * 2 ^ r) = p := by rw [hp3]; unfold IntKind.wrap; simp [IntKind.bits, IntKind.signed]; omega
        clear hA hxi
        go_wp2_with (at_builtin; refine wpList_append_own _ rfl _ _ 23 rfl w.heap.size 57 i0 (.int .u32 0) 1 4 Tryz.underlying23 hi hz0 hz1 hz2 rfl (by decide) _ _ _ rfl (HO.out.row.alloc _) ⟨wr.heap.size, 0, none⟩ 1 1 [.int .u32 ((p + cy) % 4294967296)] rfl rfl (cell_one_new _ _ _) (by simp [Value.oneCell']) (by unfold maxLen; omega) (by omega) (by simp; omega) ?_; intro v' w2 hown' hgrow _; have Hg' := Lib.hid (show (wr.alloc (.cells #[.int .u32 ((p + cy) % 4294967296)] 57)).grownBy w2 (Value.slice ao (q + i) cap).ownBlock from hgrow); clear hgrow; obtain ⟨g', cap', rfl⟩ := ownsRow_succ hown'; have HO2 := Lib.hid (HO.out.next Hg'.out hown'); clear hown' Hg')
        go_roundw
        case rel => exact ⟨i + 1, _, cap', _, _, by omega, by go_num, rfl, rfl, hc4, by omega, (by have := HAS; rw [hp3] at this; exact this), HO2⟩
        case measure => simp [intOf]; omega
      · obtain rfl : k1 = i := by omega
        have hsz := HO.out.sz
        have hfin := ShlInv.fin (show ShlInv (dg x) q r (dg x).length res cy by rw [e1.out]; exact HA.out)
        rw [← HQ.out] at hfin
        have hd := dgs_snoc HA.out.ok cy0 cy1
        have hlr : (res ++ [cy]).length = q + k1 + 1 := by rw [List.length_append, HA.out.len]; rfl
        have f2 : cy % 4294967296 = cy := by omega
        have HT := fun (w2 : World) (ao' : Option Addr) (cap' : Nat) (ho : Out w w2 ao' (q + k1 + 1) cap' (res ++ [cy])) => ho.trim HH.out hlr (by omega) hd (x * 2 ^ n) hfin 20000 HLEN.out
        have HTT := Lib.hid HT
        clear HT hfin hd hlr
        go_wp2_with (at_builtin; refine wpList_append_own _ rfl _ _ 23 rfl w.heap.size 57 i0 (.int .u32 0) 1 4 Tryz.underlying23 hi hz0 hz1 hz2 rfl (by decide) _ _ _ rfl (HO.out.row.alloc _) ⟨wr.heap.size, 0, none⟩ 1 1 [.int .u32 cy] rfl rfl (cell_one_new _ _ _) (by simp [Value.oneCell']) (by unfold maxLen; omega) (by omega) (by simp; omega) ?_; intro v' w2 hown' hgrow _; have Hg' := Lib.hid (show (wr.alloc (.cells #[.int .u32 cy] 57)).grownBy w2 (Value.slice ao (q + k1) cap).ownBlock from hgrow); clear hgrow; obtain ⟨g', cap', rfl⟩ := ownsRow_succ hown'; have HO2 := Lib.hid (HO.out.next Hg'.out hown'); clear hown' Hg')
        refine (HTT.out _ _ _ HO2.out).mono ?_
        rintro e w' ⟨A', k', c', n', rfl, hn, hk, h⟩
        have HF := Lib.hid h
        clear h
        go_wp2_with fail
        go_ret
        exact ⟨A', k', c', n', rfl, hn, hk, HF.out⟩
end Go.Proofs.YtfcfejlffmddnaaGreatDoor
end
section
/- Contracts of the reference: Sub. -/
namespace Go.Proofs.YtfcfejlffmddnaaGreatDoor
open Go.RowKit
set_option linter.unusedSimpArgs false
set_option linter.unusedVariables false
set_option linter.constructorNameAsVariable false

variable {w0 w : World} {l : List (Option Addr × Nat × Nat × Nat)}
set_option maxRecDepth 10000 in
set_option maxHeartbeats 2000000 in
theorem rsub_h (H : Has w0 w l) (A1 : Option Addr) (k1 c1 x : Nat) (A2 : Option Addr) (k2 c2 y : Nat) (h1 : (A1, k1, c1, x) ∈ l) (h2 : (A2, k2, c2, y) ∈ l) (b1 : k1 ≤ 10000) (b2 : k2 ≤ 10000) (hxy : Hid (y ≤ x)) :
    Calls Tryz.prog 44 #[.slice A1 k1 c1, .slice A2 k2 c2] w (Made w0 l (x - y) 10001) := by
  have e1 := Lib.hid (H.len h1)
  have e2 := Lib.hid (H.len h2)
  obtain ⟨i0, hi, hz0, hz1, hz2⟩ := info_u32
  have HLEN : Hid ((dg (x - y)).length ≤ 10001) := Lib.hid (by have := lenle (Nat.sub_le x y) (Nat.le_refl _); have := e1.out; omega)
  have HH := Lib.hid H
  have M1 := Lib.hid h1
  have M2 := Lib.hid h2
  clear H h1 h2
  go_enter Tryz.func44, Tryz.ntmps44
  go_wp2_with fail
  go_loopw [5, 6, 7, 8] (fun vo vc vi vs wr => ∃ (i : Nat) (ao : Option Addr) (cap : Nat) (res : List Int) (cy : Int), i ≤ k1 ∧ vi = .int .i64 i ∧ vo = .slice ao i cap ∧ vc = .int .u64 cy ∧ 0 ≤ cy ∧ cy ≤ 1 ∧ Hid (SubInv (dg x) (dg y) i res cy) ∧ Hid (Out w wr ao i cap res)) (fun vo vc vi vs wr => k1 - (intOf vi).toNat)
  case atStart => exact ⟨0, none, 0, [], 0, by omega, rfl, rfl, rfl, by omega, by omega, Lib.hid (SubInv.start _ _), Lib.hid (Out.start w)⟩
  case round =>
    obtain ⟨i, ao, cap, res, cy, hiN, rfl, rfl, rfl, cy0, cy1, HA, HO⟩ := hrel
    by_cases hlt : i < k1
    · obtain ⟨xi, hxi⟩ : ∃ z, (dg x).getD i 0 = z := ⟨_, rfl⟩
      obtain ⟨yi, hyi⟩ : ∃ z, (dg y).getD i 0 = z := ⟨_, rfl⟩
      obtain ⟨x0, x1⟩ := dgs_getD (dgs_dg x) i
      obtain ⟨y0, y1⟩ := dgs_getD (dgs_dg y) i
      rw [hxi] at x0 x1
      rw [hyi] at y0 y1
      obtain ⟨X, hX⟩ : ∃ X, (xi - yi - cy) % 4294967296 = X := ⟨_, rfl⟩
      obtain ⟨bo, hbo⟩ : ∃ bo : Int, (if xi - yi - cy < 0 then (1 : Int) else 0) = bo := ⟨_, rfl⟩
      obtain ⟨d, hd⟩ : ∃ d : Int, (xi - yi - cy) % 18446744073709551616 = d := ⟨_, rfl⟩
      have f1 : IntKind.u64.wrap (IntKind.u64.wrap (xi - yi) - cy) = d := by unfold IntKind.wrap; simp [IntKind.bits, IntKind.signed]; omega
      have f2 : d % 4294967296 = X := by omega
      have f3 : d / 9223372036854775808 = bo := by split at hbo <;> omega
      have hA := SubInv.step (dgs_dg x) (dgs_dg y) HA.out (xi - yi - cy) (by rw [hxi, hyi])
      rw [hX, hbo] at hA
      have bo0 : 0 ≤ bo := by split at hbo <;> omega
      have bo1 : bo ≤ 1 := by split at hbo <;> omega
      have HAS := Lib.hid hA
      have C1 := rat_h (HH.out.below HO.out.bl) A1 k1 c1 x i M1.out (by omega) xi (Lib.hid hxi)
      have C2 := rat_h (HH.out.below HO.out.bl) A2 k2 c2 y i M2.out (by omega) yi (Lib.hid hyi)
      have hsz := HO.out.sz
      clear hA hxi hyi hX hbo hd
      go_wp2_with fail
      refine C1.mono ?_
      rintro e w' ⟨rfl, rfl⟩
      go_wp2_with fail
      refine C2.mono ?_
      rintro e w' ⟨rfl, rfl⟩
      clear C1 C2
      go_wp2_with (at_builtin; refine wpList_append_own _ rfl _ _ 23 rfl w.heap.size 57 i0 (.int .u32 0) 1 4 Tryz.underlying23 hi hz0 hz1 hz2 rfl (by decide) _ _ _ rfl (HO.out.row.alloc _) ⟨wr.heap.size, 0, none⟩ 1 1 [.int .u32 X] rfl rfl (cell_one_new _ _ _) (by simp [Value.oneCell']) (by unfold maxLen; omega) (by omega) (by simp; omega) ?_; intro v' w2 hown' hgrow _; have Hg' := Lib.hid (show (wr.alloc (.cells #[.int .u32 X] 57)).grownBy w2 (Value.slice ao i cap).ownBlock from hgrow); clear hgrow; obtain ⟨g', cap', rfl⟩ := ownsRow_succ hown'; have HO2 := Lib.hid (HO.out.next Hg'.out hown'); clear hown' Hg')
      go_roundw
      case rel => exact ⟨i + 1, _, cap', _, _, by omega, by go_num, rfl, rfl, by omega, by omega, HAS, HO2⟩
      case measure => simp [intOf]; omega
    · obtain rfl : k1 = i := by omega
      have hv := (show SubInv (dg x) (dg y) (dg x).length res cy by rw [e1.out]; exact HA.out).fin hxy.out
      have HT := Lib.hid (HO.out.trim HH.out HA.out.len (by omega) HA.out.ok (x - y) hv 10001 HLEN.out)
      clear hv
      go_wp2_with fail
      refine HT.out.mono ?_
      rintro e w' ⟨A', k', c', n', rfl, hn, hk, h⟩
      have HF := Lib.hid h
      clear h
      go_wp2_with fail
      go_ret
      exact ⟨A', k', c', n', rfl, hn, hk, HF.out⟩
end Go.Proofs.YtfcfejlffmddnaaGreatDoor
end
section
/- Contracts of the reference: Bits, Bit, Zeros. -/
namespace Go.Proofs.YtfcfejlffmddnaaGreatDoor
open Go.RowKit
set_option linter.unusedSimpArgs false
set_option linter.unusedVariables false
set_option linter.constructorNameAsVariable false

variable {w0 w : World} {l : List (Option Addr × Nat × Nat × Nat)}
theorem bl_half {y : Nat} (h : 0 < y) : bl y = bl (y / 2) + 1 := by
  by_cases h2 : y / 2 = 0
  · obtain rfl : y = 1 := by omega
    decide
  · obtain ⟨h3, h4, h5⟩ := bl_spec h2
    obtain ⟨b, hb⟩ : ∃ b, bl (y / 2) = b + 1 := ⟨bl (y / 2) - 1, by omega⟩
    rw [hb] at h4 h5 ⊢
    rw [Nat.add_sub_cancel] at h4
    refine bl_unique ?_ ?_
    · rw [Nat.pow_succ]; omega
    · rw [Nat.pow_succ]; omega
set_option maxRecDepth 10000 in
set_option maxHeartbeats 1000000 in
theorem rbits_h (H : Has w0 w l) (A1 : Option Addr) (k1 c1 x : Nat) (h1 : (A1, k1, c1, x) ∈ l) (b1 : k1 ≤ 10000) :
    Calls Tryz.prog 59 #[.slice A1 k1 c1] w fun e w' => e = .returned (.int .i64 (bl x)) ∧ w = w' := by
  have e1 := H.len h1
  by_cases hx : x = 0
  · subst hx
    rw [dg_zero] at e1
    obtain rfl : k1 = 0 := e1.symm
    clear e1 h1 H
    rw [bl_zero]
    go_enter Tryz.func59, Tryz.ntmps59
    go_wp2_with fail
    go_ret
    exact ⟨rfl, rfl⟩
  · obtain ⟨m, t, hm, ht, ht0, ht1, hb⟩ := top_at x hx
    obtain rfl : k1 = m + 1 := by omega
    obtain ⟨r1, _, _, _⟩ := H.at h1
    obtain ⟨b, o, rfl, hcc⟩ := r1 (by intro h; rw [h] at hm; simp at hm)
    have hcell := hcc m _ ht
    have hmm : ((m + 1 : Nat) : Int) - 1 = m := by omega
    have hk0 : (((m + 1 : Nat) : Int) == 0) = false := by simp; omega
    have HB := Lib.hid hb
    clear hcc ht hm r1 h1 H hx e1 hb
    go_enter Tryz.func59, Tryz.ntmps59
    go_wp2_with fail
    go_loop [4, 5] (fun v4 v5 => ∃ (j y : Nat), v4 = .int .i64 (32 * (m : Int) + j) ∧ v5 = .int .u32 y ∧ j ≤ 32 * 10000 ∧ y < 4294967296 ∧ Hid (bl t = j + bl y)) (fun v4 v5 => (intOf v5).toNat)
    case atStart => exact ⟨0, t, by first | rfl | simp, rfl, by omega, ht1, Lib.hid (Nat.zero_add _).symm⟩
    case round =>
      obtain ⟨j, y, rfl, rfl, hj, hy, HI⟩ := hrel
      by_cases hy0 : 0 < y
      · have HN : Hid (bl t = j + 1 + bl (y / 2)) := Lib.hid (by rw [HI.out, bl_half hy0]; omega)
        have hj2 : j + 1 ≤ 32 * 10000 := by
          have h1 := HN.out
          have h2 : bl t ≤ 32 := (bl_le (n := t) (k := 32)).2 ht1
          omega
        obtain ⟨y2, hy2⟩ : ∃ y2, y / 2 = y2 := ⟨_, rfl⟩
        have f1 : (y : Int).tdiv 2 = (y2 : Int) := by rw [Int.tdiv_eq_ediv_of_nonneg (by omega)]; omega
        have f2 : (y : Int) / 2 = (y2 : Int) := by omega
        have f3 : y2 < y := by omega
        rw [hy2] at HN
        clear hy2
        go_wp2_with fail
        go_round
        case rel => exact ⟨j + 1, y2, by first | rfl | (congr 1; omega), by first | rfl | simp, by omega, by omega, HN⟩
        case measure => simp [intOf]; omega
      · obtain rfl : y = 0 := by omega
        have hf : ((bl x : Nat) : Int) = 32 * (m : Int) + j := by
          have h1 := HI.out
          have h2 := HB.out
          rw [bl_zero] at h1
          omega
        go_wp2_with fail
        go_ret
        exact ⟨by first | rfl | (rw [hf]; rfl), rfl⟩
theorem bit_eq (x i : Nat) : x / 4294967296 ^ (i / 32) % 4294967296 / 2 ^ (i % 32) % 2 = x / 2 ^ i % 2 := by
  obtain ⟨q, hq⟩ : ∃ q, i / 32 = q := ⟨_, rfl⟩
  obtain ⟨r, hr⟩ : ∃ r, i % 32 = r := ⟨_, rfl⟩
  have hi : i = 32 * q + r := by omega
  have hr2 : r < 32 := by omega
  rw [hq, hr, hi, Nat.pow_add, ← Nat.div_div_eq_div_mul, ← pow32]
  generalize x / 4294967296 ^ q = y
  obtain ⟨s, hs⟩ : ∃ s, 32 = r + (s + 1) := ⟨31 - r, by omega⟩
  have h3 : (4294967296 : Nat) = 2 ^ r * (2 ^ s * 2) := by rw [← Nat.pow_succ, ← Nat.pow_add, ← hs]
  rw [h3, Nat.mod_mul_right_div_self, Nat.mul_comm (2 ^ s), Nat.mod_mul_right_mod]
set_option maxRecDepth 10000 in
theorem rbit_h (H : Has w0 w l) (A1 : Option Addr) (k1 c1 x : Nat) (i : Nat) (h1 : (A1, k1, c1, x) ∈ l) (b1 : k1 ≤ 10000) (hi : i ≤ 100000000) (z : Nat) (hz : Hid (x / 2 ^ i % 2 = z)) :
    Calls Tryz.prog 104 #[.slice A1 k1 c1, .int .i64 i] w fun e w' => e = .returned (.int .u64 z) ∧ w = w' := by
  have HA := rat_h H A1 k1 c1 x (i / 32) h1 (by omega) _ (Lib.hid (dg_getD x (i / 32)))
  have hb := bit_eq x i
  rw [hz.out] at hb
  obtain ⟨y, hy⟩ : ∃ y, x / 4294967296 ^ (i / 32) % 4294967296 = y := ⟨_, rfl⟩
  rw [hy] at HA hb
  have hy2 : y < 4294967296 := by rw [← hy]; exact Nat.mod_lt _ (by decide)
  obtain ⟨q, hq⟩ : ∃ q, i / 32 = q := ⟨_, rfl⟩
  obtain ⟨r, hr⟩ : ∃ r, i % 32 = r := ⟨_, rfl⟩
  rw [hq] at HA
  rw [hr] at hb
  have hr2 : r < 32 := by omega
  have x1 : (i : Int).tdiv 32 = (q : Int) := by rw [Int.tdiv_eq_ediv_of_nonneg (by omega)]; omega
  have x2 : (i : Int).tmod 32 = (r : Int) := by rw [Int.tmod_eq_emod_of_nonneg (by omega)]; omega
  have x3 : wrap64 (q : Int) = (q : Int) := by unfold wrap64; omega
  obtain ⟨s, hs⟩ : ∃ s, y / 2 ^ r = s := ⟨_, rfl⟩
  rw [hs] at hb
  have x4 : (y : Int) / 2 ^ r = (s : Int) := by rw [← hs, Int.natCast_ediv, Int.natCast_pow]; rfl
  have x5 : (s : Int).tmod 2 = (z : Int) := by rw [← hb, Int.tmod_eq_emod_of_nonneg (by omega)]; omega
  have x6 : (s : Int) % 2 = (z : Int) := by rw [← hb]; omega
  clear hq hr hs hb hy hz h1 H
  go_enter Tryz.func104, Tryz.ntmps104
  go_wp2_with fail
  refine HA.mono ?_
  rintro e w' ⟨rfl, rfl⟩
  go_wp2_with fail
  go_ret
  exact ⟨rfl, rfl⟩
theorem twos_bit {x z n : Nat} (hx : x ≠ 0) (h : Twos x z) (hn : n ≤ z) : x / 2 ^ n % 2 = if n = z then 1 else 0 := by
  rcases h with ⟨h, _⟩ | ⟨m, hm⟩
  · exact absurd h hx
  · obtain ⟨d, rfl⟩ : ∃ d, z = n + d := ⟨z - n, by omega⟩
    rw [hm, Nat.pow_add, Nat.mul_assoc, Nat.mul_div_cancel_left _ (Nat.pow_pos (by decide))]
    cases d with
    | zero => rw [if_pos (by omega)]; simp
    | succ d => rw [if_neg (by omega), Nat.pow_succ, Nat.mul_assoc, Nat.mul_left_comm]; exact Nat.mul_mod_right _ _
set_option maxRecDepth 10000 in
set_option maxHeartbeats 1000000 in
theorem rzeros_h (H : Has w0 w l) (A1 : Option Addr) (k1 c1 x : Nat) (h1 : (A1, k1, c1, x) ∈ l) (b1 : k1 ≤ 10000) (z : Nat) (hz : Hid (Twos x z)) (hzb : z ≤ 1000000) :
    Calls Tryz.prog 60 #[.slice A1 k1 c1] w fun e w' => e = .returned (.int .i64 z) ∧ w = w' := by
  have e1 := Lib.hid (H.len h1)
  by_cases hx : x = 0
  · subst hx
    have e2 := e1.out
    rw [dg_zero] at e2
    obtain rfl : k1 = 0 := e2.symm
    obtain rfl : z = 0 := by
      rcases hz.out with ⟨_, h⟩ | ⟨m, hm⟩
      · exact h
      · have h1 : 0 < 2 ^ z := Nat.pow_pos (by decide)
        have h2 : 0 < 2 ^ z * (2 * m + 1) := Nat.mul_pos h1 (by omega)
        omega
    clear e2 e1 h1 H hz
    go_enter Tryz.func60, Tryz.ntmps60
    go_wp2_with fail
    go_loop [3] (fun v => v = .int .i64 0) (fun v => 0)
    case atStart => exact rfl
    case round =>
      obtain rfl := hrel
      go_wp2_with fail
      go_ret
      exact ⟨rfl, rfl⟩
  · have hk : 0 < k1 := by
      rcases Nat.eq_zero_or_pos k1 with h | h
      · exact absurd ((dg_nil_iff x).1 (by rw [e1.out, h])) hx
      · exact h
    have HT := Lib.hid (fun n hn => twos_bit hx hz.out (n := n) hn)
    have HB := Lib.hid (fun (n : Nat) (hn : n ≤ 100000000) (v : Nat) hv => rbit_h H A1 k1 c1 x n h1 b1 hn v hv)
    clear hx h1 H hz
    go_enter Tryz.func60, Tryz.ntmps60
    go_wp2_with fail
    go_loop [3] (fun v => ∃ n : Nat, n ≤ z ∧ v = .int .i64 n) (fun v => z - (intOf v).toNat)
    case atStart => exact ⟨0, Nat.zero_le _, rfl⟩
    case round =>
      obtain ⟨n, hn, rfl⟩ := hrel
      have hbit := HT.out n hn
      by_cases he : n = z
      · subst he
        rw [if_pos rfl] at hbit
        go_wp2_with fail
        refine (HB.out n (by omega) 1 (Lib.hid hbit)).mono ?_
        rintro e w' ⟨rfl, rfl⟩
        go_wp2_with fail
        go_ret
        exact ⟨rfl, rfl⟩
      · rw [if_neg he] at hbit
        go_wp2_with fail
        refine (HB.out n (by omega) 0 (Lib.hid hbit)).mono ?_
        rintro e w' ⟨rfl, rfl⟩
        go_wp2_with fail
        go_round
        case rel => exact ⟨n + 1, by omega, by go_num⟩
        case measure => simp [intOf]; omega
end Go.Proofs.YtfcfejlffmddnaaGreatDoor
end
section
/- Contracts of the reference: Root. -/
namespace Go.Proofs.YtfcfejlffmddnaaGreatDoor
open Go.RowKit
set_option linter.unusedSimpArgs false
set_option linter.unusedVariables false
set_option linter.constructorNameAsVariable false

variable {w0 w : World} {l : List (Option Addr × Nat × Nat × Nat)}
/-- A quotient and a rest. -/
def RDiv (w0 : World) (l : List (Option Addr × Nat × Nat × Nat)) (q r : Nat) (e : Ending) (w' : World) : Prop :=
  ∃ A k c A' k' c', e = .returned (.agg #[.slice A k c, .slice A' k' c']) ∧ k ≤ 10000 ∧ k' ≤ 10000 ∧ Hid (Has w0 w' ((A, k, c, q) :: (A', k', c', r) :: l))
set_option maxRecDepth 10000 in
set_option maxHeartbeats 2000000 in
theorem rroot_low (H : Has w0 w l) (A1 : Option Addr) (k1 c1 a : Nat) (n : Nat) (h1 : (A1, k1, c1, a) ∈ l) (b1 : k1 ≤ 12) (ha : a ≤ 1) (hn : 1 ≤ n) (hnb : n ≤ 9223372036854775807) :
    Calls Tryz.prog 34 #[.slice A1 k1 c1, .int .i64 n] w (RDiv w0 l a 0) := by
  have HH := Lib.hid H
  have M1 := Lib.hid h1
  have hc : Hid (∃ r : Int, cmpI a 1 = r ∧ r ≤ 0) := Lib.hid (by
    unfold cmpI
    by_cases h : a < 1
    · exact ⟨_, if_pos h, by decide⟩
    · exact ⟨_, by rw [if_neg h, if_neg (by omega)], by decide⟩)
  obtain ⟨r, hr, hr0⟩ := hc.out
  have HR := Lib.hid hr
  obtain ⟨w1, hw1⟩ : ∃ w1, w.alloc (.cells #[.slice none 0 0, .slice none 0 0] 40) = w1 := ⟨_, rfl⟩
  have hD : DCell w1 w.heap.size (.slice none 0 0) (.slice none 0 0) := by rw [← hw1]; exact DCell.new w _
  have hs1 : w1.heap.size = w.heap.size + 1 := by rw [← hw1]; simp
  have H1 : Hid (Has w1 w1 l) := Lib.hid (by rw [← hw1]; exact (HH.out.alloc _).rebase)
  have HD := Lib.hid hD
  have HW1 := Lib.hid hw1
  have HO := Lib.hid (H1.out.one 1 (by decide) (by decide))
  have C := rcmp_h HO.out A1 k1 c1 a _ 1 1 1 (.tail _ M1.out) (.head _) (by omega) (by decide) r HR
  clear H h1 ha hr hc hD hs1
  go_enter Tryz.func34, Tryz.ntmps34
  go_wp2_with fail
  refine C.mono ?_
  rintro e w' ⟨rfl, rfl⟩
  have HG := DCell.row 40 HW1.out HO.out
  go_wp2_with (refine wpList_store_row (o := { dst := none, op := .store 40 (.tmp 4) (.tmp 15), type := 0, pos := _, after := _, guard := none }) rfl 40 (.tmp 4) (.tmp 15) rfl w.heap.size #[.slice A1 k1 c1, .slice none 0 0] rfl rfl 40 #[.slice none 0 0, .slice none 0 0] HG (by kernel_rfl) rfl (by simp [Value.oneCell']) ?_)
  refine bodyPost_ret (results_cell_row rfl _ _ w.heap.size 40 _ (0, 0) _ rfl (setRow_heap _ _ _ _ _ _ HG) Tryz.underlying40 rfl (by kernel_rfl)) rfl ?_
  have HF := has_cell HH.out 40 HW1.out HO.out #[.slice A1 k1 c1, .slice none 0 0]
  have HF2 := HF.keep (l' := l) (fun p hp => .tail _ hp)
  obtain ⟨r1, x1, x2, x3⟩ := HF2.at M1.out
  exact ⟨A1, k1, c1, none, 0, 0, rfl, by omega, by omega, Lib.hid (HF2.zero.cons r1 x1 x2 x3)⟩
set_option maxRecDepth 10000 in
set_option maxHeartbeats 2000000 in
theorem rroot_mid (H : Has w0 w l) (A1 : Option Addr) (k1 c1 a : Nat) (n : Nat) (h1 : (A1, k1, c1, a) ∈ l) (b1 : k1 ≤ 12) (ha : 2 ≤ a) (hn : bl a ≤ n) (hnb : n ≤ 9223372036854775807) :
    Calls Tryz.prog 34 #[.slice A1 k1 c1, .int .i64 n] w (RDiv w0 l 1 (a - 1)) := by
  have HH := Lib.hid H
  have M1 := Lib.hid h1
  have HA := Lib.hid ha
  have HR : Hid (cmpI a 1 = 1) := Lib.hid (by unfold cmpI; rw [if_neg (by omega), if_pos (by omega)])
  obtain ⟨w1, hw1⟩ : ∃ w1, w.alloc (.cells #[.slice none 0 0, .slice none 0 0] 40) = w1 := ⟨_, rfl⟩
  obtain ⟨W0, hW0⟩ : ∃ W, w1.alloc (.cells #[.int .u32 1] 57) = W := ⟨_, rfl⟩
  obtain ⟨W2, hW2⟩ : ∃ W, W0.alloc (.cells #[.int .u32 1] 57) = W := ⟨_, rfl⟩
  obtain ⟨W3, hW3⟩ : ∃ W, W2.alloc (.cells #[.int .u32 1] 57) = W := ⟨_, rfl⟩
  have H1 : Hid (Has w1 w1 l) := Lib.hid (by rw [← hw1]; exact (HH.out.alloc _).rebase)
  have HW1 := Lib.hid hw1
  have HO : Hid (Has w1 W0 ((some ⟨w1.heap.size, 0, none⟩, 1, 1, 1) :: l)) := Lib.hid (by rw [← hW0]; exact H1.out.one 1 (by decide) (by decide))
  have HO2 : Hid (Has w1 W2 ((some ⟨W0.heap.size, 0, none⟩, 1, 1, 1) :: (some ⟨w1.heap.size, 0, none⟩, 1, 1, 1) :: l)) := Lib.hid (by rw [← hW2]; exact HO.out.one 1 (by decide) (by decide))
  have HO3 : Hid (Has w1 W3 ((some ⟨W2.heap.size, 0, none⟩, 1, 1, 1) :: (some ⟨W0.heap.size, 0, none⟩, 1, 1, 1) :: (some ⟨w1.heap.size, 0, none⟩, 1, 1, 1) :: l)) := Lib.hid (by rw [← hW3]; exact HO2.out.one 1 (by decide) (by decide))
  have C := rcmp_h HO.out A1 k1 c1 a _ 1 1 1 (.tail _ M1.out) (.head _) (by omega) (by decide) 1 HR
  have B := rbits_h HO.out A1 k1 c1 a (.tail _ M1.out) (by omega)
  have S3 := rsub_h HO3.out A1 k1 c1 a _ 1 1 1 (.tail _ (.tail _ (.tail _ M1.out))) (.head _) (by omega) (by decide) (Lib.hid (by omega))
  clear H h1 ha
  go_enter Tryz.func34, Tryz.ntmps34
  go_wp2_with fail
  refine C.mono ?_
  rintro e w' ⟨rfl, rfl⟩
  clear C
  go_wp2_with fail
  refine B.mono ?_
  rintro e w' ⟨rfl, rfl⟩
  clear B
  go_wp2_with fail
  refine S3.mono ?_
  rintro e w4 ⟨A', k', c', n', rfl, hn', hk', h⟩
  rw [hn'.out] at h
  have HX := Lib.hid h
  clear h hn' S3
  have HG := DCell.row 40 HW1.out HX.out
  go_wp2_with (refine wpList_store_row (o := { dst := none, op := .store 40 (.tmp 4) (.tmp 24), type := 0, pos := _, after := _, guard := none }) rfl 40 (.tmp 4) (.tmp 24) rfl w.heap.size #[.slice (some ⟨W0.heap.size, 0, none⟩) 1 1, .slice A' k' c'] rfl rfl 40 #[.slice none 0 0, .slice none 0 0] HG (by kernel_rfl) rfl (by simp [Value.oneCell']) ?_)
  refine bodyPost_ret (results_cell_row rfl _ _ w.heap.size 40 _ (0, 0) _ rfl (setRow_heap _ _ _ _ _ _ HG) Tryz.underlying40 rfl (by kernel_rfl)) rfl ?_
  have HF := has_cell HH.out 40 HW1.out HX.out #[.slice (some ⟨W0.heap.size, 0, none⟩) 1 1, .slice A' k' c']
  refine ⟨_, 1, 1, A', k', c', rfl, by decide, ?_, Lib.hid (HF.keep (fun p hp => ?_))⟩
  · have := HF.len (.head _)
    have h2 := lenle (Nat.sub_le a 1) (Nat.le_of_eq (HH.out.len M1.out))
    omega
  · rcases List.mem_cons.1 hp with rfl | hp
    · exact .tail _ (.tail _ (.head _))
    · rcases List.mem_cons.1 hp with rfl | hp
      · exact .head _
      · exact .tail _ (.tail _ (.tail _ (.tail _ hp)))
end Go.Proofs.YtfcfejlffmddnaaGreatDoor
end
section
/- Contracts of the reference: short. -/
namespace Go.Proofs.YtfcfejlffmddnaaGreatDoor
open Go.RowKit
set_option linter.unusedSimpArgs false
set_option linter.unusedVariables false
set_option linter.constructorNameAsVariable false

variable {w0 w : World} {l : List (Option Addr × Nat × Nat × Nat)}
set_option maxRecDepth 10000 in
set_option maxHeartbeats 4000000 in
theorem rshort_h (H : Has w0 w l) (A1 : Option Addr) (k1 c1 x : Nat) (b : Nat) (h1 : (A1, k1, c1, x) ∈ l) (b1 : k1 ≤ 10000) (hb0 : 0 < b) (hb1 : b < 4294967296) :
    Calls Tryz.prog 80 #[.slice A1 k1 c1, .int .u32 b] w (RDiv w0 l (x / b) (x % b)) := by
  obtain ⟨w1, hw1⟩ : ∃ w1, w.alloc (.cells #[.slice none 0 0, .slice none 0 0] 40) = w1 := ⟨_, rfl⟩
  have HH := Lib.hid H
  have H1 : Hid (Has w1 w1 l) := Lib.hid (by rw [← hw1]; exact (HH.out.alloc _).rebase)
  have HW1 := Lib.hid hw1
  obtain ⟨hr, hk, _, _⟩ := H1.out.at h1
  have m1 := run_make_row' (P := Tryz.prog) 23 57 (.int .u32 0) 4 Tryz.underlying23 info57 rfl .i64 .i64 k1 (by omega) (by omega)
  have HK := Lib.hid hk
  have HR := Lib.hid hr
  have HX0 := Lib.hid (lenle (Nat.div_le_self x b) (Nat.le_of_eq hk))
  obtain ⟨W, hW⟩ : ∃ W, w1.alloc (.cells (madeCells #[.int .u32 0] k1) 57) = W := ⟨_, rfl⟩
  have HW : Hid (Wr W w1.heap.size 0 (List.replicate k1 0)) := Lib.hid (by rw [← hW]; exact Wr.made _ _ _)
  have HB : Hid (Below w1.heap.size w1 W) := Lib.hid (by rw [← hW]; exact (Below.refl _ _).alloc (Nat.le_refl _) _)
  clear hk hr H h1
  go_enter Tryz.func80, Tryz.ntmps80
  go_wp2_with fail
  go_loopw [6, 7, 8] (fun v7 v8 vn wr => ∃ (j : Nat) (hi : List Int) (rest : Nat), j ≤ k1 ∧ v8 = .int .i64 ((j : Int) - 1) ∧ v7 = .int .u64 (rest : Int) ∧ rest < 4294967296 ∧ Hid (ShortInv x b j hi rest) ∧ Hid (Wr wr w1.heap.size 0 (List.replicate j 0 ++ hi)) ∧ Hid (Below w1.heap.size w1 wr)) (fun v7 v8 vn wr => (intOf v8 + 1).toNat)
  case atStart => exact ⟨k1, [], 0, Nat.le_refl _, rfl, rfl, by omega, Lib.hid (by rw [← HK.out]; exact ShortInv.start x b), by rw [List.append_nil]; exact HW, HB⟩
  case round =>
    obtain ⟨j, hi, rest, hj, rfl, rfl, hrest, HA, HW2, HB2⟩ := hrel
    cases j with
    | zero =>
      have hz : ¬ (0 : Int) ≤ ((0 : Nat) : Int) - 1 := by omega
      have hA := HA.out
      have hv : vl hi = ((x / b : Nat) : Int) := by rw [hA.val, Nat.pow_zero, Nat.div_one]
      have hl2 : rest = x % b := by rw [hA.left, Nat.pow_zero, Nat.div_one]
      have hlen : hi.length = k1 := by rw [hA.len, HK.out]; omega
      have hw2 : Wr wr w1.heap.size 0 hi := by have := HW2.out; simpa using this
      have HL := Lib.hid hl2
      have HTR := Lib.hid (rtrim_calls _ k1 k1 hi (x / b) wr hlen (Nat.le_refl _) (by omega) (by omega) hA.ok hv hw2.rd)
      have HXW := Lib.hid (H1.out.below HB2.out)
      clear hv hl2 hlen hw2 hA HA
      go_wp2_with fail
      refine HTR.out.mono ?_
      rintro e w2 ⟨A', c', rfl, hr, h3, h4, hb⟩
      have H2 := Lib.hid ((HXW.out.below hb).cons hr rfl h3 h4)
      clear hr h3 h4 hb
      go_wp2_with fail
      refine (rof_h H2.out rest (by omega)).mono ?_
      rintro e w3 ⟨A3, k3, c3, n3, rfl, hn3, b3, h⟩
      rw [hn3.out, HL.out] at h
      have H3 := Lib.hid h
      clear h hn3
      have HG := DCell.row 40 HW1.out H3.out
      obtain ⟨kq, hkq⟩ : ∃ kq, (dg (x / b)).length = kq := ⟨_, rfl⟩
      have HKQ := Lib.hid hkq
      rw [hkq]
      clear hkq
      go_wp2_with (refine wpList_store_row (o := { dst := none, op := .store 40 (.tmp 4) (.tmp 43), type := 0, pos := _, after := _, guard := none }) rfl 40 (.tmp 4) (.tmp 43) rfl w.heap.size #[.slice A' kq c', .slice A3 k3 c3] rfl rfl 40 #[.slice none 0 0, .slice none 0 0] HG (by kernel_rfl) rfl (by simp [Value.oneCell']) ?_)
      refine bodyPost_ret (results_cell_row rfl _ _ w.heap.size 40 _ (0, 0) _ rfl (setRow_heap _ _ _ _ _ _ HG) Tryz.underlying40 rfl (by kernel_rfl)) rfl ?_
      have HF := has_cell HH.out 40 HW1.out H3.out #[.slice A' kq c', .slice A3 k3 c3]
      refine ⟨A', kq, c', A3, k3, c3, rfl, ?_, by omega, Lib.hid (HF.keep (fun p hp => ?_))⟩
      · have := HX0.out
        have := HKQ.out
        omega
      · rw [← HKQ.out] at hp
        rcases List.mem_cons.1 hp with rfl | hp
        · exact .tail _ (.head _)
        · rcases List.mem_cons.1 hp with rfl | hp
          · exact .head _
          · exact .tail _ (.tail _ hp)
    | succ j =>
      have hz : ((j + 1 : Nat) : Int) - 1 = j := by omega
      have hge : decide ((0 : Int) ≤ (j : Int)) = true := decide_eq_true (by omega)
      obtain ⟨d, hd⟩ : ∃ d : Nat, (dg x).getD j 0 = (d : Int) := ⟨((dg x).getD j 0).toNat, by have := digit_lt x j; omega⟩
      have hd1 : d < 4294967296 := by have := digit_lt x j; omega
      have hjk : j < (dg x).length := by rw [HK.out]; omega
      obtain ⟨s, hs⟩ : ∃ s, rest * 4294967296 + d = s := ⟨_, rfl⟩
      obtain ⟨hA, hsb, hrb⟩ := ShortInv.step hb0 hjk HA.out d s hd hs.symm
      obtain ⟨b1', o1, hA1, hcell0⟩ := HR.out (by intro h; rw [h] at hjk; simp at hjk)
      subst hA1
      have hc0 := hcell0 j d (by rw [List.getElem?_eq_getElem hjk, ← hd, List.getD_eq_getElem?_getD, List.getElem?_eq_getElem hjk]; rfl)
      have hc0' : wr.cell? ⟨b1', o1 + j, none⟩ = some (.int .u32 d) := by rw [HB2.out.cell (p := ⟨b1', o1 + j, none⟩) (World.block_lt_of_cell? w1 _ hc0)]; exact hc0
      have hcell := HW2.out j 0 (low_get hi j)
      rw [Nat.zero_add] at hcell
      obtain ⟨hc1, hc2⟩ := hcell
      have hsum : (rest : Int) * 4294967296 + (d : Int) = (s : Int) := by omega
      have hrl : s % b < 4294967296 := Nat.lt_trans (Nat.mod_lt _ hb0) hb1
      obtain ⟨q, hqq⟩ : ∃ q, s / b = q := ⟨_, rfl⟩
      obtain ⟨r, hrr⟩ : ∃ r, s % b = r := ⟨_, rfl⟩
      have hq : ((s : Int).tdiv b) = (q : Int) := by rw [Int.tdiv_eq_ediv_of_nonneg (by omega), ← hqq]; exact (Int.natCast_ediv _ _).symm
      have hq' : ((s : Int) / b) = (q : Int) := by rw [← hqq]; exact (Int.natCast_ediv _ _).symm
      have hr2 : ((s : Int).tmod b) = (r : Int) := by rw [Int.tmod_eq_emod_of_nonneg (by omega), ← hrr]; exact (Int.natCast_emod _ _).symm
      have hr2' : ((s : Int) % b) = (r : Int) := by rw [← hrr]; exact (Int.natCast_emod _ _).symm
      rw [hqq] at hsb hA
      rw [hrr] at hrl hA
      have hqm : (q : Int) % 4294967296 = q := by omega
      have hbz : ((b : Int) == 0) = false := by simp; omega
      have hw : Wr (Go.World.setCell wr ⟨w1.heap.size, j, none⟩ (.int .u32 q)) w1.heap.size 0 (List.replicate j 0 ++ (q : Int) :: hi) := by
        have := HW2.out.set j q
        rwa [Nat.zero_add, low_set] at this
      have hb : ∀ v, Below w1.heap.size w1 (Go.World.setCell wr ⟨w1.heap.size, j, none⟩ v) := fun v => HB2.out.setCell (p := ⟨w1.heap.size, j, none⟩) (Nat.le_refl _) v
      have HAS := Lib.hid hA
      have HWS := Lib.hid hw
      have HBS := Lib.hid hb
      clear hd hjk hs hA hrb hcell0 hc0 hqq hrr hw hb HA HW2
      go_wp2_with fail
      go_roundw
      case rel => exact ⟨j, _, r, by omega, by first | rfl | (congr 1), rfl, hrl, HAS, HWS, Lib.hid (HBS.out _)⟩
      case measure => simp [intOf]
end Go.Proofs.YtfcfejlffmddnaaGreatDoor
end
section
/- Numerals read back. -/
namespace Go.Proofs.YtfcfejlffmddnaaGreatDoor
open Go.RowKit
set_option linter.unusedSimpArgs false
set_option linter.unusedVariables false
set_option linter.constructorNameAsVariable false

theorem u8_digit {d : Nat} (h : d < 10) : (UInt8.ofNat (48 + d)).toNat = 48 + d := by
  rw [UInt8.toNat_ofNat']; omega
theorem isDg_digit {d : Nat} (h : d < 10) : isDg (UInt8.ofNat (48 + d)) = true := by
  unfold isDg; rw [u8_digit h]; exact decide_eq_true (by omega)
theorem dec_spec (u : Nat) : (Lib.decDigits u).all isDg = true ∧ vd (Lib.decDigits u) = u ∧ Lib.decDigits u ≠ [] ∧ (u ≠ 0 → (Lib.decDigits u).head? ≠ some 48) := by
  induction u using Nat.strongRecOn with
  | _ u ih =>
    by_cases h : u < 10
    · rw [Lib.decDigits_one h]
      refine ⟨by rw [List.all_cons, List.all_nil, isDg_digit h]; rfl, by rw [show ∀ x : UInt8, [x] = [] ++ [x] from fun _ => rfl, vd_snoc, u8_digit h]; simp [vd], by simp, fun h0 he => ?_⟩
      have h1 : UInt8.ofNat (48 + u) = 48 := by simpa using he
      have h2 := congrArg UInt8.toNat h1
      rw [u8_digit h] at h2
      have : (48 : UInt8).toNat = 48 := rfl
      omega
    · obtain ⟨i1, i2, i3, i4⟩ := ih (u / 10) (by omega)
      have hd : u % 10 < 10 := Nat.mod_lt _ (by decide)
      rw [dec_big h]
      refine ⟨by rw [List.all_append, i1, List.all_cons, List.all_nil, isDg_digit hd]; rfl, ?_, by simp, fun h0 => ?_⟩
      · rw [vd_snoc, i2, u8_digit hd]; omega
      · have := i4 (by omega)
        cases hl : Lib.decDigits (u / 10) with
        | nil => exact absurd hl i3
        | cons x xs => rw [hl] at this; simpa using this
theorem dec_size {a : Nat} (h : (dg a).length ≤ 1024) : (Lib.decDigits a).length ≤ 10240 := by
  rw [Lib.decDigits_length]
  obtain ⟨k, hk⟩ : ∃ k, k = 1024 := ⟨_, rfl⟩
  rw [← hk] at h
  have h1 := lt_of_len h
  have h2 : 4294967296 ^ k ≤ (10 ^ 10) ^ k := Nat.pow_le_pow_left (by decide) k
  rw [← Nat.pow_mul] at h2
  have h3 := (pad_dec (10 * k) a (by omega) (Nat.lt_of_lt_of_le h1 h2)).2
  omega
theorem parO_dec {a : Nat} (h : (dg a).length ≤ 1024) : parO (Lib.decDigits a) = (0, a) := by
  obtain ⟨d1, d2, d3, d4⟩ := dec_spec a
  have hl := dec_size h
  have hf : formB (Lib.decDigits a) = true := by
    unfold formB
    rw [d1, decide_eq_true d3]
    by_cases h0 : a = 0
    · subst h0; rw [Lib.decDigits_one (by decide)]; decide
    · rw [decide_eq_true (d4 h0)]; simp
  unfold parO
  rw [if_neg (by omega), if_pos hf, d2, giv_ok h]
theorem dec_next {a d : Nat} (ha : a ≠ 0) (hd : d < 10) : S (Lib.decDigits (a * 10 + d)) = S (Lib.decDigits a) ++ S [UInt8.ofNat (48 + d)] := by
  rw [dec_big (by omega), show (a * 10 + d) / 10 = a by omega, show (a * 10 + d) % 10 = d by omega]
  symm
  apply S_of
  rw [L_append, L_S, L_S]
end Go.Proofs.YtfcfejlffmddnaaGreatDoor
end
section
/- Plain: the digits of a number, the last one ahead (for the reference's Text). -/
namespace Go.Proofs.YtfcfejlffmddnaaGreatDoor
set_option linter.unusedSimpArgs false
set_option linter.unusedVariables false
set_option linter.constructorNameAsVariable false

/-- The decimal digits, the last one ahead; none for 0. -/
def rd (v : Nat) : List UInt8 := if h : v = 0 then [] else UInt8.ofNat (48 + v % 10) :: rd (v / 10)
termination_by v
decreasing_by omega
theorem rd_zero : rd 0 = [] := by rw [rd]; simp
theorem rd_pos {v : Nat} (h : v ≠ 0) : rd v = UInt8.ofNat (48 + v % 10) :: rd (v / 10) := by rw [rd, dif_neg h]
theorem rd_dec {X : Nat} (h : X ≠ 0) : rd X = (Lib.decDigits X).reverse := by
  induction X using Nat.strongRecOn with
  | _ X ih =>
    rw [rd_pos h]
    by_cases h1 : X < 10
    · rw [Lib.decDigits_one h1, Nat.div_eq_of_lt h1, rd_zero, Nat.mod_eq_of_lt h1]; rfl
    · rw [dec_big h1, ih (X / 10) (by omega) (by omega), List.reverse_append]; rfl
/-- One digit of a block of nine: n is what is left of it, a what stands above. -/
theorem rd_block {a n i : Nat} (hi : i < 9) (h : a * 10 ^ (9 - i) + n ≠ 0) :
    rd (a * 10 ^ (9 - i) + n) = UInt8.ofNat (48 + n % 10) :: rd (a * 10 ^ (9 - (i + 1)) + n / 10) := by
  obtain ⟨k, hk⟩ : ∃ k, 9 - i = k + 1 := ⟨8 - i, by omega⟩
  have hk2 : 9 - (i + 1) = k := by omega
  rw [hk] at h
  rw [hk, hk2, rd_pos h]
  have e : a * 10 ^ (k + 1) + n = 10 * (a * 10 ^ k) + n := by rw [Nat.pow_succ, ← Nat.mul_assoc, Nat.mul_comm _ 10]
  rw [e]
  have h1 : (10 * (a * 10 ^ k) + n) % 10 = n % 10 := by omega
  have h2 : (10 * (a * 10 ^ k) + n) / 10 = a * 10 ^ k + n / 10 := by omega
  rw [h1, h2]
end Go.Proofs.YtfcfejlffmddnaaGreatDoor
end
section
/- A row of bytes that a loop makes (for the reference's Text). -/
namespace Go.Proofs.YtfcfejlffmddnaaGreatDoor
open Go.RowKit
set_option linter.unusedSimpArgs false
set_option linter.unusedVariables false
set_option linter.constructorNameAsVariable false

theorem info_u8 : ∃ i, Tryz.prog.info? 5 = some i ∧ i.zero = some (.int .u8 0) ∧ i.size = 1 ∧ i.bytes = 1 := by
  obtain ⟨i, hi, hzz⟩ := Option.map_eq_some_iff.1 info5
  simp only [Prod.mk.injEq] at hzz
  exact ⟨i, hi, hzz.1, hzz.2.1, hzz.2.2⟩
/-- A row of bytes that a loop has made so far. -/
structure OutB (w wr : World) (ao : Option Addr) (k cap : Nat) (bs : List UInt8) : Prop where
  row : wr.ownsRow w.heap.size 5 1 (.slice ao k cap) k (Lib.byteCells bs)
  bl : Below w.heap.size w wr
  sz : w.heap.size ≤ wr.heap.size
theorem OutB.start (w : World) : OutB w w none 0 0 [] := ⟨World.ownsRow_nil _ _ _ _, Below.refl _ _, Nat.le_refl _⟩
theorem OutB.next {w wr w2 : World} {ao : Option Addr} {k cap : Nat} {bs : List UInt8} (h : OutB w wr ao k cap bs) {c : UInt8} {T : TypeId} {ao' : Option Addr} {cap' : Nat}
    (hg : (wr.alloc (.cells #[.int .u8 c.toNat] T)).grownBy w2 (Value.slice ao k cap).ownBlock) (ho : w2.ownsRow w.heap.size 5 1 (.slice ao' (k + 1) cap') (k + 1) (Lib.byteCells bs ++ [.int .u8 c.toNat])) : OutB w w2 ao' (k + 1) cap' (bs ++ [c]) := by
  have hs := h.sz
  refine ⟨?_, (h.bl.alloc hs _).grown hg (by simp; omega) (fun i hi => own_ge h.row i hi), ?_⟩
  · rw [byteCells_append]
    exact ho
  · have := hg.size; simp at this; omega
theorem OutB.below {w wr w' : World} {ao : Option Addr} {k cap : Nat} {bs : List UInt8} (h : OutB w wr ao k cap bs) (hb : Below wr.heap.size wr w') : OutB w w' ao k cap bs := by
  refine ⟨⟨h.row.1, ?_⟩, h.bl.trans (hb.mono h.sz), Nat.le_trans h.sz hb.size⟩
  rcases h.row.2 with h1 | ⟨g, c2, cur, h1, h2, h3, h4⟩
  · exact Or.inl h1
  · exact Or.inr ⟨g, c2, cur, h1, h2, by rw [hb.block g (Array.getElem?_eq_some_iff.1 h3).1]; exact h3, h4⟩
end Go.Proofs.YtfcfejlffmddnaaGreatDoor
end
section
/- Contracts of the reference: Text, the loops that collect the digits. -/
namespace Go.Proofs.YtfcfejlffmddnaaGreatDoor
open Go.RowKit
set_option linter.unusedSimpArgs false
set_option linter.unusedVariables false
set_option linter.constructorNameAsVariable false

variable {w0 w : World} {l : List (Option Addr × Nat × Nat × Nat)}
set_option maxRecDepth 10000 in
theorem rtext_zero (H : Has w0 w l) (A1 : Option Addr) (c1 : Nat) (h1 : (A1, 0, c1, 0) ∈ l) :
    Calls Tryz.prog 38 #[.slice A1 0 c1] w fun e w' => e = .returned (.string (S (Lib.decDigits 0))) ∧ Hid (Has w0 w' l) := by
  have HH := Lib.hid H
  have hs : S (Lib.decDigits 0) = ⟨#[48]⟩ := by rw [Lib.decDigits_one (by decide)]; rfl
  rw [hs]
  clear H h1 hs
  go_enter Tryz.func38, Tryz.ntmps38
  go_wp2_with fail
  go_ret
  exact ⟨rfl, HH⟩
end Go.Proofs.YtfcfejlffmddnaaGreatDoor
end
section
/- A row of bytes that a loop makes: it holds bytes alone, so that what is alive beside it stays alive. -/
namespace Go.Proofs.YtfcfejlffmddnaaGreatDoor
open Go.RowKit
set_option linter.unusedSimpArgs false
set_option linter.unusedVariables false
set_option linter.constructorNameAsVariable false

theorem run_append8s {P : Program} (w : World) (base : Nat) (t ty e : TypeId) (i : TypeInfo) (ht : P.underlying t = some (.slice e)) (hi : P.info? e = some i) (hz : i.zero = some (.int .u8 0))
    (hsize : i.size = 1) (hby : i.bytes = 1) (v : Value) (n : Nat) (xs : List Value) (hown : w.ownsRow base e 1 v n xs) (ad : Addr) (m c : Nat) (news : List Value)
    (hl : news.length = m * 1) (hnews : ∀ j u, news[j]? = some u → w.cell? (ad.add j) = some u) (h1 : ∀ u ∈ news, u.oneCell' = true)
    (h63 : n + m ≤ maxLen) (hbytes : (n + m) * 1 ≤ 140737488355328) (hbase : base ≤ w.heap.size) (h8 : Row8 w v) (hxs : ∀ y ∈ xs, ∃ m, y = .int .u8 m) (hns : ∀ y ∈ news, ∃ m, y = .int .u8 m) :
    ∃ v' w', (Builtin.append_ #[t, t] ty #[v, .slice (some ad) m c]).run P w = .ok v' w' ∧ w'.ownsRow base e 1 v' (n + m) (xs ++ news) ∧ w.grownBy w' v.ownBlock ∧ Row8 w' v' := by
  obtain ⟨v', w', hr, h1', h2, _⟩ := run_append_own (P := P) w base t ty e i (.int .u8 0) 1 1 ht hi hz hsize hby rfl (by decide) v n xs hown ad m c news hl hnews h1 h63 hbytes hbase
  refine ⟨v', w', hr, h1', h2, ?_⟩
  have hsmall : n + m ≤ 9223372036854775807 := by simp only [maxLen] at h63; omega
  have hxl : xs.length = n := by simpa using hown.1
  have hnl : news.length = m := by simpa using hl
  rcases hown.2 with ⟨rfl, rfl⟩ | ⟨g, cap, cur, rfl, hbg, hg, hnc, hcm, hcs, htake⟩
  · by_cases hm : m = 0
    · subst hm
      have hr2 : (Builtin.append_ #[t, t] ty #[.slice none 0 0, .slice (some ad) 0 c]).run P w = .ok (.slice none 0 0) w := by
        simp [Builtin.append_, run_underlying ht, sizeOf, typeInfo, hi, Builtin.lenOf, Builtin.firstCells, loadCells, loadCellsFrom]
      have := hr.symm.trans hr2
      injection this with e1 e2
      subst e1 e2
      intro b cs T fr hb
      simp [Value.ownBlock] at hb
    · have hr2 := run_append_nil (P := P) w t ty e i (.int .u8 0) ht hi hz ad m c news (by rw [hsize]; exact hl) hnews (by omega) (by omega) (by rw [hby]; omega)
      have := hr.symm.trans hr2
      injection this with e1 e2
      subst e1 e2
      intro b cs T fr hb hh
      simp only [Value.ownBlock, Option.some.injEq] at hb
      subst hb
      have := (World.alloc_heap_new w.drew _).symm.trans hh
      simp only [Option.some.injEq, Obj.cells.injEq] at this
      rw [← this.1]
      intro y hy
      rw [Array.toList_append, List.mem_append] at hy
      rcases hy with hy | hy
      · exact hns y (by simpa using hy)
      · exact u8s_zero _ y hy
  · have hcur := h8 g cur e (0, 0) rfl hg
    by_cases hroom : n + m ≤ cap
    · have hcs' : cur.size = cap := by simpa using hcs
      have hr2 := run_append_room (P := P) w t ty e i ht hi g n cap cur hg ad m c news (by rw [hsize]; exact hl) hnews h1 hroom (by rw [hsize, hnl]; omega)
      have := hr.symm.trans hr2
      injection this with e1 e2
      subst e1 e2
      intro b cs T fr hb hh
      simp only [Value.ownBlock, Option.some.injEq] at hb
      subst hb
      have := (setRow_heap w g cur _ e _ hg).symm.trans hh
      simp only [Option.some.injEq, Obj.cells.injEq] at this
      rw [← this.1]
      intro y hy
      simp only [List.mem_append] at hy
      rcases hy with (hy | hy) | hy
      · exact hcur y (List.mem_of_mem_take hy)
      · exact hns y hy
      · exact hcur y (List.mem_of_mem_drop hy)
    · have holds : ∀ j u, xs[j]? = some u → w.cell? ((⟨g, 0, none⟩ : Addr).add j) = some u := hown.cells (g := g) rfl
      have hr2 := run_append_grow (P := P) w t ty e i (.int .u8 0) ht hi hz ⟨g, 0, none⟩ n cap xs (by rw [hsize]; simpa using hxl) holds ad m c news (by rw [hsize]; exact hl) hnews (by omega) (by omega) (by rw [hby]; exact growslice_fits (by omega) (by omega))
      have := hr.symm.trans hr2
      injection this with e1 e2
      subst e1 e2
      intro b cs T fr hb hh
      simp only [Value.ownBlock, Option.some.injEq] at hb
      subst hb
      have := (World.alloc_heap_new w.drew _).symm.trans hh
      simp only [Option.some.injEq, Obj.cells.injEq] at this
      rw [← this.1]
      intro y hy
      rw [Array.toList_append, Array.toList_append, List.mem_append, List.mem_append] at hy
      rcases hy with (hy | hy) | hy
      · exact hxs y (by simpa using hy)
      · exact hns y (by simpa using hy)
      · exact u8s_zero _ y hy
theorem wpList_append8s {P : Program} {w : World} {ops : Array Oper} {rest : List Oper} {o : Oper} {a : Act} {Q : Exit → Act → World → Prop} (hgd : o.guard = none) (sl x : Operand) (t : TypeId)
    (ho : o.op = .call { callee := .builtin .append, args := #[sl, x], argTypes := #[t, t] })
    (base : Nat) (e : TypeId) (i : TypeInfo) (ht : P.underlying t = some (.slice e)) (hi : P.info? e = some i) (hz : i.zero = some (.int .u8 0))
    (hsize : i.size = 1) (hby : i.bytes = 1)
    (v : Value) (n : Nat) (xs : List Value) (hs : a.eval sl = v) (hown : w.ownsRow base e 1 v n xs) (ad : Addr) (m c : Nat) (news : List Value) (hx : a.eval x = .slice (some ad) m c)
    (hl : news.length = m * 1) (hnews : ∀ j u, news[j]? = some u → w.cell? (ad.add j) = some u) (h1 : ∀ u ∈ news, u.oneCell' = true)
    (h63 : n + m ≤ maxLen) (hbytes : (n + m) * 1 ≤ 140737488355328) (hbase : base ≤ w.heap.size) (h8 : Row8 w v) (hxs : ∀ y ∈ xs, ∃ m, y = .int .u8 m) (hns : ∀ y ∈ news, ∃ m, y = .int .u8 m)
    (h : ∀ v' w', w'.ownsRow base e 1 v' (n + m) (xs ++ news) → w.grownBy w' v.ownBlock → Row8 w' v' → wpList P ops Q rest (a.put o.dst v') w') : wpList P ops Q (o :: rest) a w := by
  refine wpList_plain hgd fun K hK => ?_
  obtain ⟨v', w', hr, h2, h3, h4⟩ := run_append8s (P := P) w base t o.type e i ht hi hz hsize hby v n xs hown ad m c news hl hnews h1 h63 hbytes hbase h8 hxs hns
  unfold Oper.wp execOp
  simp only [ho, resolve, invoke, builtin, Sem.run_bind, Sem.run_pure, Result.andThen_ok, List.map_toArray, List.map_cons, List.map_nil, hs, hx, hr]
  exact hK _ _ (h v' w' h2 h3 h4)
/-- A row of bytes that a loop has made so far; it holds bytes alone. -/
structure OutC (w wr : World) (ao : Option Addr) (k cap : Nat) (bs : List UInt8) : Prop where
  o : OutB w wr ao k cap bs
  r8 : Row8 wr (.slice ao k cap)
theorem OutC.start (w : World) : OutC w w none 0 0 [] := ⟨OutB.start w, fun b cs T fr h => by simp [Value.ownBlock] at h⟩
theorem Row8.below {w w' : World} {v : Value} {B : Nat} {e : TypeId} {n : Nat} {xs : List Value} (h : Row8 w v) (hown : w.ownsRow B e 1 v n xs) (hb : Below w.heap.size w w') : Row8 w' v := fun b cs T fr hk hh => by
  have := hb.block b (own_lt hown hk).1
  exact h b cs T fr hk (this.symm.trans hh)
theorem Row8.alloc {w : World} {v : Value} {B : Nat} {e : TypeId} {n : Nat} {xs : List Value} (h : Row8 w v) (hown : w.ownsRow B e 1 v n xs) (o : Obj) : Row8 (w.alloc o) v :=
  h.below hown ((Below.refl _ w).alloc (Nat.le_refl _) o)
theorem OutC.below {w wr w' : World} {ao : Option Addr} {k cap : Nat} {bs : List UInt8} (h : OutC w wr ao k cap bs) (hb : Below wr.heap.size wr w') : OutC w w' ao k cap bs :=
  ⟨h.o.below hb, h.r8.below h.o.row hb⟩
theorem OutC.next {w wr w2 : World} {ao : Option Addr} {k cap : Nat} {bs : List UInt8} (h : OutC w wr ao k cap bs) {c : UInt8} {T : TypeId} {ao' : Option Addr} {cap' : Nat}
    (hg : (wr.alloc (.cells #[.int .u8 c.toNat] T)).grownBy w2 (Value.slice ao k cap).ownBlock) (ho : w2.ownsRow w.heap.size 5 1 (.slice ao' (k + 1) cap') (k + 1) (Lib.byteCells bs ++ [.int .u8 c.toNat])) (h8 : Row8 w2 (.slice ao' (k + 1) cap')) : OutC w w2 ao' (k + 1) cap' (bs ++ [c]) :=
  ⟨h.o.next hg ho, h8⟩
/-- A list of limbs does not lie in a block of bytes alone. -/
theorem Rd.not8 {w : World} {A : Option Addr} {g : List Int} (hR : Rd .u32 w A g) (hne : g ≠ []) : ∃ b o, A = some ⟨b, o, none⟩ ∧ ∀ cs T fr, w.heap[b]? = some (.cells cs T fr) → ¬ U8s cs := by
  obtain ⟨b, o, rfl, hc⟩ := hR hne
  refine ⟨b, o, rfl, fun cs T fr hh h8 => ?_⟩
  obtain ⟨x, hx⟩ : ∃ x, g[0]? = some x := ⟨_, List.getElem?_eq_getElem (List.length_pos_iff.2 hne)⟩
  have h1 := hc 0 x hx
  rw [Lib.cell_of_heap hh] at h1
  rw [Nat.add_zero, ← Array.getElem?_toList] at h1
  obtain ⟨n, hn⟩ := h8 _ (List.mem_of_getElem? h1)
  cases hn
/-- What is alive stays alive where the row of bytes grows. -/
theorem Rd.grown {w w2 : World} {v : Value} {A : Option Addr} {g : List Int} (hR : Rd .u32 w A g) (hg : w.grownBy w2 v.ownBlock) (h8 : Row8 w v) : Rd .u32 w2 A g := by
  intro hne
  obtain ⟨b, o, rfl, h⟩ := hR.not8 hne
  obtain ⟨b', o', e, hc⟩ := hR hne
  cases e
  refine ⟨b, o, rfl, fun j x hx => ?_⟩
  have h1 := hc j x hx
  refine hg.cell h1 (fun e => ?_)
  cases hh : w.heap[b]? with
  | none => simp [World.cell?, hh] at h1
  | some ob =>
    cases ob with
    | cells cs T fr => exact h cs T fr hh (h8 b cs T fr e.symm hh)
    | _ => simp [World.cell?, hh] at h1
theorem Has.grown {w0 w w2 : World} {l : List (Option Addr × Nat × Nat × Nat)} (H : Has w0 w l) {v : Value} (hg : w.grownBy w2 v.ownBlock) (h8 : Row8 w v) (hlow : ∀ k, v.ownBlock = some k → w0.heap.size ≤ k) : Has w0 w2 l :=
  ⟨H.b.grown hg H.b.size (fun i hi => hlow i hi), fun p hp => ⟨(H.r p hp).1.grown hg h8, (H.r p hp).2⟩⟩
end Go.Proofs.YtfcfejlffmddnaaGreatDoor
end
section
/- A row of bytes that is reversed in place (for the reference's Text). -/
namespace Go.Proofs.YtfcfejlffmddnaaGreatDoor
open Go.RowKit
set_option linter.unusedSimpArgs false
set_option linter.unusedVariables false
set_option linter.constructorNameAsVariable false

def slLen : Value → Nat
  | .slice _ k _ => k
  | _ => 0
/-- Bytes in a block, from its start on, that may be written. -/
def Wb (w : World) (g : Nat) (bs : List UInt8) : Prop := ∀ j x, bs[j]? = some x → w.cell? ⟨g, j, none⟩ = some (.int .u8 x.toNat) ∧ w.frozen? ⟨g, j, none⟩ = false
theorem Wb.set {w : World} {g : Nat} {bs : List UInt8} (h : Wb w g bs) (j : Nat) (x : UInt8) (v : Value) (hv : v = .int .u8 x.toNat) : Wb (w.setCell ⟨g, j, none⟩ v) g (bs.set j x) := by
  subst hv
  intro i y hy
  by_cases e : i = j
  · subst e
    have hi : i < bs.length := by have := (List.getElem?_eq_some_iff.1 hy).1; simpa using this
    rw [List.getElem?_set_self hi] at hy
    injection hy with hy; subst hy
    obtain ⟨h1, h2⟩ := h i _ (List.getElem?_eq_getElem hi)
    exact ⟨World.cell?_setCell_same _ _ _ h1, by rw [World.frozen?_setCell]; exact h2⟩
  · rw [List.getElem?_set_ne (fun h => e h.symm)] at hy
    obtain ⟨h1, h2⟩ := h i y hy
    exact ⟨by rw [World.cell?_setCell_other _ _ _ _ (by intro h; injection h with h1 h2; exact e h2.symm)]; exact h1, by rw [World.frozen?_setCell]; exact h2⟩
theorem OutC.wb {w wr : World} {ao : Option Addr} {k cap : Nat} {bs : List UInt8} (h : OutC w wr ao k cap bs) (hk : 0 < k) : ∃ g, ao = some ⟨g, 0, none⟩ ∧ w.heap.size ≤ g ∧ bs.length = k ∧ k ≤ cap ∧ cap ≤ 9223372036854775807 ∧ Wb wr g bs := by
  have hl : bs.length = k := by have := h.o.row.1; simpa [Lib.byteCells_length] using this
  rcases h.o.row.2 with ⟨h1, h2⟩ | ⟨g, c2, cur, h1, h2, h3, h4, h5, h6⟩
  · omega
  · injection h1 with e1 e2 e3
    subst e1 e3
    refine ⟨g, rfl, h2, hl, h4, by have := h5; simp only [maxLen] at this; omega, fun j x hx => ?_⟩
    have hc := h.o.row.cells (g := g) rfl j (.int .u8 x.toNat) (by simp [Lib.byteCells, hx])
    rw [Lib.add_plain, Nat.zero_add] at hc
    refine ⟨hc, ?_⟩
    simp [World.frozen?, h3]
/-- Both ends are exchanged already, i bytes at each. -/
def Rev (bs : List UInt8) (i : Nat) (cs : List UInt8) : Prop := cs.length = bs.length ∧ ∀ j, j < bs.length → cs[j]? = if j < i ∨ bs.length - i ≤ j then bs[bs.length - 1 - j]? else bs[j]?
theorem Rev.start (bs : List UInt8) : Rev bs 0 bs := ⟨rfl, fun j hj => by rw [if_neg (by omega)]⟩
theorem Rev.next {bs : List UInt8} {i : Nat} {cs : List UInt8} (h : Rev bs i cs) (hi : i < bs.length / 2) {x y : UInt8} (hx : cs[i]? = some x) (hy : cs[bs.length - 1 - i]? = some y) : Rev bs (i + 1) ((cs.set i y).set (bs.length - 1 - i) x) := by
  obtain ⟨h1, h2⟩ := h
  refine ⟨by simp [h1], fun j hj => ?_⟩
  have e1 := h2 i (by omega)
  have e2 := h2 (bs.length - 1 - i) (by omega)
  rw [if_neg (by omega)] at e1 e2
  rw [hx] at e1
  rw [hy] at e2
  by_cases c1 : j = bs.length - 1 - i
  · subst c1
    rw [List.getElem?_set_self (by simp [h1]; omega), if_pos (by omega), e1]
    congr 1; omega
  · rw [List.getElem?_set_ne (by omega)]
    by_cases c2 : j = i
    · subst c2
      rw [List.getElem?_set_self (by rw [h1]; omega), if_pos (by omega), e2]
    · rw [List.getElem?_set_ne (by omega), h2 j hj]
      by_cases c3 : j < i ∨ bs.length - i ≤ j
      · rw [if_pos c3, if_pos (by omega)]
      · rw [if_neg c3, if_neg (by omega)]
theorem Rev.done {bs : List UInt8} {i : Nat} {cs : List UInt8} (h : Rev bs i cs) (hi : i = bs.length / 2) : cs = bs.reverse := by
  obtain ⟨h1, h2⟩ := h
  apply List.ext_getElem?
  intro j
  by_cases hj : j < bs.length
  · rw [h2 j hj, List.getElem?_reverse hj]
    by_cases c : j < i ∨ bs.length - i ≤ j
    · rw [if_pos c]
    · rw [if_neg c]; congr 1; omega
  · rw [List.getElem?_eq_none (by omega), List.getElem?_eq_none (by simp; omega)]
end Go.Proofs.YtfcfejlffmddnaaGreatDoor
end
section
/- Plain: one digit of the reference's quotient. -/
namespace Go.Proofs.YtfcfejlffmddnaaGreatDoor
set_option linter.unusedSimpArgs false
set_option linter.unusedVariables false
set_option linter.constructorNameAsVariable false

/-- i digits of h times y are taken off; c is carried, b is borrowed. -/
structure RSub (u : List Int) (y : Nat) (h : Int) (i : Nat) (res : List Int) (c b : Int) : Prop where
  len : res.length = i
  ok : dgs res
  c0 : 0 ≤ c
  c1 : c < 4294967296
  b0 : 0 ≤ b
  b1 : b ≤ 1
  le : c * BB i ≤ h * vl ((dg y).take i)
  eq : vl (u.take i) + (b + c) * BB i = vl res + h * vl ((dg y).take i)
theorem RSub.start (u : List Int) (y : Nat) (h : Int) : RSub u y h 0 [] 0 0 := ⟨rfl, dgs_nil, by omega, by omega, by omega, by omega, by simp [vl_nil], by simp [vl_nil]⟩
theorem mul_lt_word {a b c : Int} (a0 : 0 ≤ a) (a1 : a < 4294967296) (b0 : 0 ≤ b) (b1 : b < 4294967296) (c0 : 0 ≤ c) (c1 : c < 4294967296) : 0 ≤ a * b + c ∧ a * b + c < 18446744073709551616 := by
  have h1 : a * b ≤ 4294967295 * 4294967295 := Int.mul_le_mul (by omega) (by omega) b0 (by omega)
  have h2 : 0 ≤ a * b := Int.mul_nonneg a0 b0
  omega
theorem RSub.step {u : List Int} {y : Nat} {h : Int} {i : Nat} {res : List Int} {c b : Int} (h0 : 0 ≤ h) (h1 : h < 4294967296) (H : RSub u y h i res c b) (x yi p d z b' : Int)
    (hu : dgs u) (hx : u.getD i 0 = x) (hy : (dg y).getD i 0 = yi) (hp : p = yi * h + c) (hd : d = x - p % 4294967296 - b) (hz : z = d % 4294967296) (hb : (0 ≤ d ∧ b' = 0) ∨ (d < 0 ∧ b' = 1)) :
    RSub u y h (i + 1) (res ++ [z]) (p / 4294967296) b' := by
  obtain ⟨e1, e2, e3, e4, e5, e6, e7, e8⟩ := H
  obtain ⟨y0, y1⟩ := dgs_getD (dgs_dg y) i
  obtain ⟨x0, x1⟩ := dgs_getD hu i
  rw [hy] at y0 y1
  rw [hx] at x0 x1
  obtain ⟨p0, p1⟩ := mul_lt_word y0 y1 h0 h1 e3 e4
  rw [← hp] at p0 p1
  have hm := split_mul (BB i) p
  have hpos := BB_pos i
  refine ⟨by simp [e1], dgs_snoc e2 (by omega) (by omega), by omega, by omega, by omega, by omega, ?_, ?_⟩
  · rw [vl_take_succ, hy, BB_succ]
    have q1 : p / 4294967296 * 4294967296 ≤ yi * h + c := by omega
    have q2 := Int.mul_le_mul_of_nonneg_right q1 (Int.le_of_lt hpos)
    rw [Int.add_mul] at q2
    have q3 : p / 4294967296 * (4294967296 * BB i) = p / 4294967296 * 4294967296 * BB i := (Int.mul_assoc _ _ _).symm
    have q4 : h * (vl ((dg y).take i) + BB i * yi) = h * vl ((dg y).take i) + yi * h * BB i := by rw [Int.mul_add]; congr 1; rw [Int.mul_comm (BB i), ← Int.mul_assoc, Int.mul_comm h]
    rw [q3, q4]
    omega
  · rw [vl_take_succ, vl_take_succ, vl_snoc, hx, hy, e1, BB_succ]
    have key : x - (b + c) + (b' + p / 4294967296) * 4294967296 = z + yi * h := by omega
    have k2 : BB i * (x - (b + c) + (b' + p / 4294967296) * 4294967296) = BB i * (z + yi * h) := by rw [key]
    generalize vl (u.take i) = U at *
    generalize vl ((dg y).take i) = V at *
    generalize vl res = R at *
    generalize BB i = W at *
    generalize p / 4294967296 = q at *
    clear hm key hz hd hb hp
    grind
theorem RSub.fin {u : List Int} {y n : Nat} {h : Int} {res : List Int} {c b : Int} (h0 : 0 ≤ h) (h1 : h < 4294967296) (H : RSub u y h (n + 1) res c b) (hu : u.length = n + 1) (hy : (dg y).length = n) :
    vl u + b * BB (n + 1) = vl res + h * y := by
  obtain ⟨e1, e2, e3, e4, e5, e6, e7, e8⟩ := H
  rw [vl_take_all (dg y) _ (by omega), vl_dg] at e7 e8
  rw [vl_take_all u _ (by omega)] at e8
  have hlt := (dg_len_le y n).1 (Nat.le_of_eq hy)
  have hpos := BB_pos n
  have hc : c = 0 := by
    rcases Int.lt_or_le 0 c with hc | hc
    · have h2 : 1 * BB (n + 1) ≤ c * BB (n + 1) := Int.mul_le_mul_of_nonneg_right (by omega) (Int.le_of_lt (BB_pos _))
      have h3 : h * (y : Int) ≤ 4294967295 * y := Int.mul_le_mul_of_nonneg_right (by omega) (by omega)
      rw [BB_succ] at h2 e7
      omega
    · omega
  rw [hc, Int.add_zero] at e8
  exact e8
/-- The estimate is not too small. -/
theorem est_least {R y W T D : Int} (hW : 0 < W) (hD : 0 < D) (hd : D * W ≤ y) (hR : R < (T + 1) * W) (hT : 0 ≤ T) (hy : R < y * 4294967296) (h : Int) (hh : h = min (T / D) 4294967295) : R < (h + 1) * y ∧ 0 ≤ h ∧ h < 4294967296 := by
  have q0 : 0 ≤ T / D := Int.ediv_nonneg hT (Int.le_of_lt hD)
  have h0 : 0 ≤ h := by omega
  refine ⟨?_, h0, by omega⟩
  refine Int.not_le.1 fun hn => ?_
  have h1 := est_low hW hd hR (by omega) hn
  have h2 : h + 1 ≤ T / D := (Int.le_ediv_iff_mul_le hD).2 h1
  have h3 : h = 4294967295 := by omega
  subst h3
  have : (4294967295 + 1 : Int) * y = y * 4294967296 := by rw [Int.mul_comm]; rfl
  omega
/-- The border of the loop that adds back. -/
structure RAdd (R : Int) (y n : Nat) (h b : Int) (res : List Int) : Prop where
  len : res.length = n + 1
  ok : dgs res
  h0 : 0 ≤ h
  h1 : h < 4294967296
  b0 : 0 ≤ b
  b1 : b ≤ 1
  up : R < (h + 1) * y
  eq : R + b * BB (n + 1) = vl res + h * y
theorem RAdd.fin {R : Int} {y n : Nat} {h : Int} {res : List Int} (H : RAdd R y n h 0 res) : R = h * y + vl res ∧ vl res < y := by
  obtain ⟨e1, e2, e3, e4, e5, e6, e7, e8⟩ := H
  rw [Int.add_mul, Int.one_mul] at e7
  omega
theorem RAdd.pos {R : Int} {y n : Nat} {h : Int} {res : List Int} (hR : 0 ≤ R) (hRB : R < BB (n + 1)) (H : RAdd R y n h 1 res) : 1 ≤ h := by
  obtain ⟨e1, e2, e3, e4, e5, e6, e7, e8⟩ := H
  rcases Int.lt_or_le 0 h with hc | hc
  · omega
  · obtain rfl : h = 0 := by omega
    have := vl_lt e2
    rw [e1] at this
    omega
theorem RAdd.step {R : Int} {y n : Nat} {h : Int} {res res' : List Int} {c : Int} (hR : 0 ≤ R) (hRB : R < BB (n + 1)) (H : RAdd R y n h 1 res) (hl : res'.length = n + 1) (hd : dgs res') (c0 : 0 ≤ c) (c1 : c ≤ 1) (he : vl res' + c * BB (n + 1) = vl res + y) : RAdd R y n (h - 1) (1 - c) res' := by
  have hp := H.pos hR hRB
  obtain ⟨e1, e2, e3, e4, e5, e6, e7, e8⟩ := H
  have hlt := vl_lt e2
  rw [e1] at hlt
  refine ⟨hl, hd, by omega, by omega, by omega, by omega, ?_, ?_⟩
  · rw [Int.sub_add_cancel]; omega
  · rw [Int.sub_mul, Int.sub_mul]; omega
/-- The borrow of one digit, as the machine's words tell it. -/
theorem borrow_of {x pl b : Int} (x0 : 0 ≤ x) (x1 : x < 4294967296) (p0 : 0 ≤ pl) (p1 : pl < 4294967296) (b0 : 0 ≤ b) (b1 : b ≤ 1) :
    ∃ e1 e2 z b' : Int, IntKind.u64.wrap (x - pl) = e1 ∧ IntKind.u64.wrap (e1 - b) = e2 ∧ e2 % 4294967296 = z ∧ e2 / 9223372036854775808 = b' ∧ z = (x - pl - b) % 4294967296 ∧ ((0 ≤ x - pl - b ∧ b' = 0) ∨ (x - pl - b < 0 ∧ b' = 1)) ∧ 0 ≤ z ∧ z < 4294967296 ∧ 0 ≤ e2 ∧ e2 < 18446744073709551616 := by
  refine ⟨_, _, _, _, rfl, rfl, rfl, rfl, ?_, ?_, ?_, ?_, ?_, ?_⟩ <;> (rw [IntKind.wrap_u64, IntKind.wrap_u64]; omega)
end Go.Proofs.YtfcfejlffmddnaaGreatDoor
end
section
/- Contracts of the reference: Trim and Shl, the row that they make is their own. -/
namespace Go.Proofs.YtfcfejlffmddnaaGreatDoor
open Go.RowKit
set_option linter.unusedSimpArgs false
set_option linter.unusedVariables false
set_option linter.constructorNameAsVariable false

set_option maxRecDepth 10000 in
set_option maxHeartbeats 2000000 in
theorem rtrim_own (A : Option Addr) (c k : Nat) (g : List Int) (x : Nat) (w : World) (hk : g.length = k) (hkc : k ≤ c) (hcm : c ≤ 9223372036854775807) (hkb : k ≤ 1099511627776) (hd : dgs g) (hv : vl g = x) (hR : Rd .u32 w A g) :
    Calls Tryz.prog 74 #[.slice A k c] w fun e w' => ∃ A' c', e = .returned (.slice A' (dg x).length c') ∧ Out w w' A' (dg x).length c' (dg x) := by
  obtain ⟨i0, hi, hz0, hz1, hz2⟩ := info_u32
  have hfin : ∀ m, m ≤ k → (∀ j z, m ≤ j → g[j]? = some z → z = 0) → (∀ z, 0 < m → g[m - 1]? = some z → z ≠ 0) → m = (dg x).length ∧ g.take m = dg x := fun m h1 h2 h3 => by
    have h4 := trim_end g hd m (by omega) h2 h3 x hv
    have h5 := congrArg List.length h4
    rw [List.length_take, Nat.min_eq_left (by omega)] at h5
    exact ⟨h5, h4⟩
  have HF := Lib.hid hfin
  have HK := Lib.hid hk
  have HR := Lib.hid hR
  clear hfin hk hR hd hv
  go_enter Tryz.func74, Tryz.ntmps74
  go_wp2_with fail
  go_loop [3] (fun v => ∃ m : Nat, m ≤ k ∧ v = .int .i64 m ∧ Hid (∀ j z, m ≤ j → g[j]? = some z → z = 0)) (fun v => (intOf v).toNat)
  case atStart => exact ⟨k, Nat.le_refl _, rfl, Lib.hid (fun j z hj hz => by
    have := (List.getElem?_eq_some_iff.1 hz).1
    rw [HK.out] at this; omega)⟩
  case round =>
    obtain ⟨m, hm, rfl, hz⟩ := hrel
    by_cases hm0 : m = 0
    · subst hm0
      obtain ⟨f1, f2⟩ := HF.out 0 (Nat.zero_le _) hz.out (fun z h => absurd h (by omega))
      have hx0 : dg x = [] := by rw [← f2, List.take_zero]
      have F1 := Lib.hid f1
      have F2 := Lib.hid hx0
      clear f1 f2 hx0
      cases A with
      | none =>
        clear hi hz0 hz1 hz2
        go_wp2_with fail
        go_ret
        rw [F2.out]
        exact ⟨some ⟨w.heap.size, 0, none⟩, 0, rfl, World.ownsRow_made w #[] 0 (Nat.le_refl _) (Nat.zero_le _) rfl, (Below.refl _ w).alloc (Nat.le_refl _) _, by simp⟩
      | some a =>
        go_wp2_with (at_builtin; refine wpList_append_own _ rfl _ _ 23 rfl w.heap.size 57 i0 (.int .u32 0) 1 4 Tryz.underlying23 hi hz0 hz1 hz2 rfl (by decide) _ _ _ rfl (World.ownsRow_made w #[] 0 (Nat.le_refl _) (Nat.zero_le _) rfl) a 0 c [] rfl (by simp) (by simp) (by simp) (by simp) (by simp) (by simp) ?_)
        intro v' w1 hown hgrow hnil
        clear hi hz0 hz1 hz2 hnil
        go_wp2
        go_ret
        obtain ⟨A', c', rfl, h1, h2, h3⟩ := row_rd (l := []) rfl hown
        rw [F2.out]
        exact ⟨A', c', rfl, hown, ((Below.refl _ w).alloc (Nat.le_refl _) _).grown hgrow (by simp) (by intro k hk; simp [Value.ownBlock] at hk; omega), by have := hgrow.size; simp at this; omega⟩
    · obtain ⟨m, rfl⟩ : ∃ m', m = m' + 1 := ⟨m - 1, by omega⟩
      obtain ⟨z, hx⟩ : ∃ z, g[m]? = some z := ⟨_, List.getElem?_eq_getElem (by rw [HK.out]; omega)⟩
      obtain ⟨b, o, rfl, hcc⟩ := HR.out (by rintro rfl; simp at hx)
      have hcell := hcc m z hx
      have hmm : ((m + 1 : Nat) : Int) - 1 = m := by omega
      by_cases hzz : z = 0
      · have Hx : Hid (g[m]? = some 0) := by rw [hzz] at hx; exact Lib.hid hx
        have hzb : (z == 0) = true := beq_iff_eq.2 hzz
        clear hcc hx hzz hi hz0 hz1 hz2
        go_wp2_with fail
        go_round
        case rel => exact ⟨m, by omega, by first | rfl | (congr 1), Lib.hid (fun j y hj hy => by
          by_cases e : j = m
          · subst e; rw [Hx.out] at hy; injection hy with hy; exact hy.symm
          · exact hz.out j y (by omega) hy)⟩
        case measure => simp [intOf]
      · have hzb : (z == 0) = false := beq_eq_false_iff_ne.2 hzz
        obtain ⟨f1, f2⟩ := HF.out (m + 1) hm hz.out (fun y _ hy => by
          rw [Nat.add_sub_cancel, hx] at hy; injection hy with hy; rw [← hy]; exact hzz)
        have F1 := Lib.hid f1
        have F2 := Lib.hid f2
        have HC := Lib.hid hcc
        clear f1 f2 hcc hx hzz
        obtain ⟨gl, hgl⟩ : ∃ gl, g.take (m + 1) = gl := ⟨_, rfl⟩
        have HGL := Lib.hid hgl
        have hrow : Hid (∀ j u, (gl.map (Value.int .u32))[j]? = some u → (w.alloc (.cells #[] 57)).cell? ((⟨b, o, none⟩ : Addr).add j) = some u) := Lib.hid (fun j u hj => by
          rw [List.getElem?_map] at hj
          obtain ⟨y, hy, rfl⟩ := Option.map_eq_some_iff.1 hj
          rw [show (⟨b, o, none⟩ : Addr).add j = ⟨b, o + j, none⟩ from by unfold Addr.add; split <;> simp_all]
          rw [← hgl, List.getElem?_take] at hy
          split at hy
          · exact Lib.cell?_alloc_some _ (HC.out j y hy)
          · cases hy)
        have hlen : (gl.map (Value.int .u32)).length = (m + 1) * 1 := by rw [List.length_map, ← hgl, List.length_take, HK.out]; omega
        have HLEN := Lib.hid hlen
        clear hlen hgl
        go_wp2_with (at_builtin; refine wpList_append_own _ rfl _ _ 23 rfl w.heap.size 57 i0 (.int .u32 0) 1 4 Tryz.underlying23 hi hz0 hz1 hz2 rfl (by decide) _ _ _ rfl (World.ownsRow_made w #[] 0 (Nat.le_refl _) (Nat.zero_le _) rfl) ⟨b, o, none⟩ (m + 1) c (gl.map (Value.int .u32)) rfl HLEN.out hrow.out (fun u hu => by obtain ⟨x, _, rfl⟩ := List.mem_map.1 hu; rfl) (by unfold maxLen; omega) (by omega) (by simp) ?_)
        intro v' w1 hown hgrow hnil
        clear hi hz0 hz1 hz2 hnil
        go_wp2
        go_ret
        obtain ⟨A', c', rfl, h1, h2, h3⟩ := row_rd (l := gl) (by have := HLEN.out; rwa [List.length_map, Nat.mul_one] at this) hown
        rw [HGL.out.symm.trans F2.out] at hown
        refine ⟨A', c', by rw [← F1.out]; rfl, ?_⟩
        rw [← F1.out]
        exact ⟨hown, ((Below.refl _ w).alloc (Nat.le_refl _) _).grown hgrow (by simp) (by intro k hk; simp [Value.ownBlock] at hk; omega), by have := hgrow.size; simp at this; omega⟩
/-- The trimmed row is a row of one's own. -/
theorem Out.trim_own {w wr : World} {ao : Option Addr} {k cap : Nat} {res : List Int} (h : Out w wr ao k cap res) (hk : res.length = k) (hb : k ≤ 1099511627776) (hd : dgs res) (x : Nat) (hv : vl res = x) :
    Calls Tryz.prog 74 #[.slice ao k cap] wr fun e w' => ∃ A' c', e = .returned (.slice A' (dg x).length c') ∧ Out w w' A' (dg x).length c' (dg x) := by
  obtain ⟨A', c', e, hr, h1, h2⟩ := row_rd hk h.row
  cases e
  refine (rtrim_own ao cap k res x wr hk h1 h2 hb hd hv hr).mono ?_
  rintro e w' ⟨A2, c2, rfl, ho⟩
  exact ⟨A2, c2, rfl, row_weaken ho.row h.sz, h.bl.trans (ho.bl.mono h.sz), Nat.le_trans h.sz ho.sz⟩
variable {w0 w : World} {l : List (Option Addr × Nat × Nat × Nat)}
set_option maxRecDepth 10000 in
set_option maxHeartbeats 2000000 in
theorem rshl_own (H : Has w0 w l) (A1 : Option Addr) (k1 c1 x : Nat) (n : Nat) (h1 : (A1, k1, c1, x) ∈ l) (b1 : k1 ≤ 10000) (hk : k1 ≠ 0) (hn1 : n ≤ 100000) :
    Calls Tryz.prog 53 #[.slice A1 k1 c1, .int .i64 n] w fun e w' => ∃ A' c', e = .returned (.slice A' (dg (x * 2 ^ n)).length c') ∧ Out w w' A' (dg (x * 2 ^ n)).length c' (dg (x * 2 ^ n)) := by
  have e1 := Lib.hid (H.len h1)
  have hk0 : ((k1 : Int) == 0) = false := by simp; omega
  obtain ⟨i0, hi, hz0, hz1, hz2⟩ := info_u32
  obtain ⟨q, hq⟩ : ∃ q, n / 32 = q := ⟨_, rfl⟩
  obtain ⟨r, hr⟩ : ∃ r, n % 32 = r := ⟨_, rfl⟩
  have hnq : n = 32 * q + r := by omega
  have hr32 : r < 32 := by omega
  have hq2 : q ≤ 3125 := by omega
  have m1 := make_cap q (q + k1 + 1) (by omega) (by omega)
  rw [show ((q + k1 + 1 : Nat) : Int) = (q : Int) + (k1 : Int) + 1 by omega] at m1
  have HLEN : Hid ((dg (x * 2 ^ n)).length ≤ 20000) := Lib.hid (by
    have h1 := len_mul x (2 ^ n)
    obtain ⟨K, hK⟩ : ∃ K, K = 3126 := ⟨_, rfl⟩
    have h2 : (dg (2 ^ n)).length ≤ K := by
      refine len_of_lt ?_
      rw [pow32]
      exact Nat.pow_lt_pow_right (by decide) (by omega)
    have := e1.out
    omega)
  have x1 : (n : Int).tdiv 32 = (q : Int) := by rw [Int.tdiv_eq_ediv_of_nonneg (by omega)]; omega
  have x2 : (n : Int).tmod 32 = (r : Int) := by rw [Int.tmod_eq_emod_of_nonneg (by omega)]; omega
  have x3 : wrap64 (q : Int) = (q : Int) := by unfold wrap64; omega
  have HH := Lib.hid H
  have M1 := Lib.hid h1
  have HQ := Lib.hid hnq
  obtain ⟨r1, _, _, _⟩ := H.at h1
  obtain ⟨b, o, rfl, hcc⟩ := r1 (by intro h; rw [← List.length_eq_zero_iff, e1.out] at h; exact hk h)
  have HC := Lib.hid hcc
  clear H h1 hq hr hnq r1 hk hcc
  go_enter Tryz.func53, Tryz.ntmps53
  go_wp2_with fail
  go_loopw [5, 6, 7, 8] (fun vo vc vi vs wr => ∃ (i : Nat) (ao : Option Addr) (cap : Nat) (res : List Int) (cy : Int), i ≤ k1 ∧ vi = .int .i64 i ∧ vo = .slice ao (q + i) cap ∧ vc = .int .u64 cy ∧ 0 ≤ cy ∧ cy < 4294967296 ∧ Hid (ShlInv (dg x) q r i res cy) ∧ Hid (Out w wr ao (q + i) cap res)) (fun vo vc vi vs wr => k1 - (intOf vi).toNat)
  case atStart => exact ⟨0, _, _, _, 0, by omega, rfl, rfl, rfl, by omega, by omega, Lib.hid (ShlInv.start _ _ _), Lib.hid (Out.made w q (q + k1 + 1) (by omega) (by omega))⟩
  case round =>
    obtain ⟨i, ao, cap, res, cy, hiN, rfl, rfl, rfl, cy0, cy1, HA, HO⟩ := hrel
    by_cases hlt : i < k1
    · obtain ⟨xi, hxi⟩ : ∃ z, (dg x)[i]? = some z := ⟨_, List.getElem?_eq_getElem (by rw [e1.out]; exact hlt)⟩
      obtain ⟨y0, y1⟩ := dgs_at (dgs_dg x) hxi
      have hcx := HC.out i xi hxi
      have hlt1 := World.block_lt_of_cell? w _ hcx
      rw [← HO.out.bl.cell (p := ⟨b, o + i, none⟩) hlt1] at hcx
      have hA := ShlInv.step (dgs_dg x) HA.out xi hxi (xi * 2 ^ r + cy) (Int.add_comm _ _)
      have hc3 := hA.c1
      have hc4 := hA.c0
      have hp := pow2_32 (show r ≤ 32 by omega)
      have HAS := Lib.hid hA
      have hsz := HO.out.sz
      have hp2 := pow2_pos r
      have hm1 : xi * 2 ^ r ≤ 4294967295 * 4294967296 := Int.mul_le_mul (by omega) hp (by omega) (by omega)
      have hm0 : 0 ≤ xi * 2 ^ r := Int.mul_nonneg y0 (by omega)
      obtain ⟨p, hp3⟩ : ∃ p, xi * 2 ^ r = p := ⟨_, rfl⟩
      rw [hp3] at hm1 hm0 hc3 hc4
      have f1 : IntKind.u64.wrap (xi * 2 ^ r) = p := by rw [hp3]; unfold IntKind.wrap; simp [IntKind.bits, IntKind.signed]; omega
      clear hA hxi
      go_wp2_with (at_builtin; refine wpList_append_own _ rfl _ _ 23 rfl w.heap.size 57 i0 (.int .u32 0) 1 4 Tryz.underlying23 hi hz0 hz1 hz2 rfl (by decide) _ _ _ rfl (HO.out.row.alloc _) ⟨wr.heap.size, 0, none⟩ 1 1 [.int .u32 ((p + cy) % 4294967296)] rfl rfl (cell_one_new _ _ _) (by simp [Value.oneCell']) (by unfold maxLen; omega) (by omega) (by simp; omega) ?_; intro v' w2 hown' hgrow _; have Hg' := Lib.hid (show (wr.alloc (.cells #[.int .u32 ((p + cy) % 4294967296)] 57)).grownBy w2 (Value.slice ao (q + i) cap).ownBlock from hgrow); clear hgrow; obtain ⟨g', cap', rfl⟩ := ownsRow_succ hown'; have HO2 := Lib.hid (HO.out.next Hg'.out hown'); clear hown' Hg')
      go_roundw
      case rel => exact ⟨i + 1, _, cap', _, _, by omega, by go_num, rfl, rfl, hc4, by omega, (by have := HAS; rw [hp3] at this; exact this), HO2⟩
      case measure => simp [intOf]; omega
    · obtain rfl : k1 = i := by omega
      have hsz := HO.out.sz
      have hfin := ShlInv.fin (show ShlInv (dg x) q r (dg x).length res cy by rw [e1.out]; exact HA.out)
      rw [← HQ.out] at hfin
      have hd := dgs_snoc HA.out.ok cy0 cy1
      have hlr : (res ++ [cy]).length = q + k1 + 1 := by rw [List.length_append, HA.out.len]; rfl
      have f2 : cy % 4294967296 = cy := by omega
      have HT := fun (w2 : World) (ao' : Option Addr) (cap' : Nat) (ho : Out w w2 ao' (q + k1 + 1) cap' (res ++ [cy])) => ho.trim_own hlr (by omega) hd (x * 2 ^ n) hfin
      have HTT := Lib.hid HT
      clear HT hfin hd hlr
      go_wp2_with (at_builtin; refine wpList_append_own _ rfl _ _ 23 rfl w.heap.size 57 i0 (.int .u32 0) 1 4 Tryz.underlying23 hi hz0 hz1 hz2 rfl (by decide) _ _ _ rfl (HO.out.row.alloc _) ⟨wr.heap.size, 0, none⟩ 1 1 [.int .u32 cy] rfl rfl (cell_one_new _ _ _) (by simp [Value.oneCell']) (by unfold maxLen; omega) (by omega) (by simp; omega) ?_; intro v' w2 hown' hgrow _; have Hg' := Lib.hid (show (wr.alloc (.cells #[.int .u32 cy] 57)).grownBy w2 (Value.slice ao (q + k1) cap).ownBlock from hgrow); clear hgrow; obtain ⟨g', cap', rfl⟩ := ownsRow_succ hown'; have HO2 := Lib.hid (HO.out.next Hg'.out hown'); clear hown' Hg')
      refine (HTT.out _ _ _ HO2.out).mono ?_
      rintro e w' ⟨A', c', rfl, h⟩
      have HF := Lib.hid h
      clear h
      go_wp2_with fail
      go_ret
      exact ⟨A', c', rfl, HF.out⟩
end Go.Proofs.YtfcfejlffmddnaaGreatDoor
end
section
/- Contracts of the reference: Div, the short ways. -/
namespace Go.Proofs.YtfcfejlffmddnaaGreatDoor
open Go.RowKit
set_option linter.unusedSimpArgs false
set_option linter.unusedVariables false
set_option linter.constructorNameAsVariable false

variable {w0 w : World} {l : List (Option Addr × Nat × Nat × Nat)}
set_option maxRecDepth 10000 in
set_option maxHeartbeats 2000000 in
theorem rdiv_one (H : Has w0 w l) (A1 : Option Addr) (k1 c1 x : Nat) (A2 : Option Addr) (c2 y : Nat) (h1 : (A1, k1, c1, x) ∈ l) (h2 : (A2, 1, c2, y) ∈ l) (b1 : k1 ≤ 10000) :
    Calls Tryz.prog 30 #[.slice A1 k1 c1, .slice A2 1 c2] w (RDiv w0 l (x / y) (x % y)) := by
  obtain ⟨w1, hw1⟩ : ∃ w1, w.alloc (.cells #[.slice none 0 0, .slice none 0 0] 40) = w1 := ⟨_, rfl⟩
  have HH := Lib.hid H
  have H1 : Hid (Has w1 w1 l) := Lib.hid (by rw [← hw1]; exact (HH.out.alloc _).rebase)
  have HW1 := Lib.hid hw1
  obtain ⟨hr2, hk2, _, _⟩ := H1.out.at h2
  have hy0 : 0 < y := by
    rcases Nat.eq_zero_or_pos y with h | h
    · subst h; rw [dg_zero] at hk2; cases hk2
    · exact h
  have hy1 : y < 4294967296 := by have := lt_of_len (Nat.le_of_eq hk2); omega
  rw [dg_small (by omega) hy1] at hr2
  obtain ⟨b, o, rfl, hc⟩ := hr2 (by simp)
  have hc0 : w1.cell? ⟨b, o, none⟩ = some (.int .u32 (y : Int)) := hc 0 _ rfl
  have HS := Lib.hid (rshort_h H1.out A1 k1 c1 x y h1 b1 hy0 hy1)
  clear hk2 hr2 hc H h1 h2
  go_enter Tryz.func30, Tryz.ntmps30
  go_wp2_with fail
  refine HS.out.mono ?_
  rintro e w2 ⟨A3, k3, c3, A4, k4, c4, rfl, b3, b4, H2⟩
  have HG := DCell.row 40 HW1.out H2.out
  go_wp2_with (refine wpList_store_row (o := { dst := none, op := .store 40 (.tmp 4) (.tmp 26), type := 0, pos := _, after := _, guard := none }) rfl 40 (.tmp 4) (.tmp 26) rfl w.heap.size #[.slice A3 k3 c3, .slice A4 k4 c4] rfl rfl 40 #[.slice none 0 0, .slice none 0 0] HG (by kernel_rfl) rfl (by simp [Value.oneCell']) ?_)
  refine bodyPost_ret (results_cell_row rfl _ _ w.heap.size 40 _ (0, 0) _ rfl (setRow_heap _ _ _ _ _ _ HG) Tryz.underlying40 rfl (by kernel_rfl)) rfl ?_
  exact ⟨A3, k3, c3, A4, k4, c4, rfl, b3, b4, Lib.hid (has_cell HH.out 40 HW1.out H2.out #[.slice A3 k3 c3, .slice A4 k4 c4])⟩
set_option maxRecDepth 10000 in
set_option maxHeartbeats 2000000 in
theorem rdiv_less (H : Has w0 w l) (A1 : Option Addr) (k1 c1 x : Nat) (A2 : Option Addr) (k2 c2 y : Nat) (h1 : (A1, k1, c1, x) ∈ l) (h2 : (A2, k2, c2, y) ∈ l) (b1 : k1 ≤ 10000) (b2 : k2 ≤ 10000) (hne : k2 ≠ 1) (hlt : x < y) :
    Calls Tryz.prog 30 #[.slice A1 k1 c1, .slice A2 k2 c2] w (RDiv w0 l (x / y) (x % y)) := by
  obtain ⟨w1, hw1⟩ : ∃ w1, w.alloc (.cells #[.slice none 0 0, .slice none 0 0] 40) = w1 := ⟨_, rfl⟩
  have HH := Lib.hid H
  have H1 : Hid (Has w1 w1 l) := Lib.hid (by rw [← hw1]; exact (HH.out.alloc _).rebase)
  have HW1 := Lib.hid hw1
  have hcm : Hid (cmpI x y = -1) := Lib.hid (by rw [cmpI, if_pos hlt])
  have C := Lib.hid (rcmp_h H1.out A1 k1 c1 x A2 k2 c2 y h1 h2 (by omega) (by omega) _ hcm)
  have T := Lib.hid (rtrim_h H1.out A1 k1 c1 x h1 (by omega))
  rw [Nat.div_eq_of_lt hlt, Nat.mod_eq_of_lt hlt]
  have hne1 : (k2 : Int) ≠ 1 := by omega
  have hne2 : ((k2 : Int) == 1) = false := by simp; omega
  clear H hlt h1 h2 hcm
  go_enter Tryz.func30, Tryz.ntmps30
  go_wp2_with fail
  refine C.out.mono ?_
  rintro e w' ⟨rfl, rfl⟩
  go_wp2_with fail
  refine T.out.mono ?_
  rintro e w2 ⟨A3, k3, c3, n3, rfl, hn3, b3, h⟩
  rw [hn3.out] at h
  have H2 := Lib.hid h
  clear h hn3
  have HG := DCell.row 40 HW1.out H2.out
  go_wp2_with (refine wpList_store_row (o := { dst := none, op := .store 40 (.tmp 4) (.tmp 33), type := 0, pos := _, after := _, guard := none }) rfl 40 (.tmp 4) (.tmp 33) rfl w.heap.size #[.slice none 0 0, .slice A3 k3 c3] rfl rfl 40 #[.slice none 0 0, .slice none 0 0] HG (by kernel_rfl) rfl (by simp [Value.oneCell']) ?_)
  refine bodyPost_ret (results_cell_row rfl _ _ w.heap.size 40 _ (0, 0) _ rfl (setRow_heap _ _ _ _ _ _ HG) Tryz.underlying40 rfl (by kernel_rfl)) rfl ?_
  exact ⟨none, 0, 0, A3, k3, c3, rfl, by decide, by omega, Lib.hid (has_cell HH.out 40 HW1.out H2.out #[.slice none 0 0, .slice A3 k3 c3]).zero⟩
end Go.Proofs.YtfcfejlffmddnaaGreatDoor
end
section
/- Contracts of the reference: Div, the great way. -/
namespace Go.Proofs.YtfcfejlffmddnaaGreatDoor
open Go.RowKit
set_option linter.unusedSimpArgs false
set_option linter.unusedVariables false
set_option linter.constructorNameAsVariable false

theorem Out.wr {w wr : World} {ao : Option Addr} {k cap : Nat} {res : List Int} (h : Out w wr ao k cap res) (hk : 0 < k) : ∃ g, ao = some ⟨g, 0, none⟩ ∧ w.heap.size ≤ g ∧ res.length = k ∧ k ≤ cap ∧ cap ≤ 9223372036854775807 ∧ Wr wr g 0 res := by
  have hl : res.length = k := by have := h.row.1; simpa using this
  rcases h.row.2 with ⟨h1, h2⟩ | ⟨g, c2, cur, h1, h2, h3, h4, h5, h6⟩
  · omega
  · injection h1 with e1 e2 e3
    subst e1 e3
    refine ⟨g, rfl, h2, hl, h4, by have := h5; simp only [maxLen] at this; omega, fun j x hx => ?_⟩
    have hc := h.row.cells (g := g) rfl j (.int .u32 x) (by simp [hx])
    rw [Lib.add_plain, Nat.zero_add] at hc
    rw [Nat.zero_add]
    refine ⟨hc, ?_⟩
    simp [World.frozen?, h3]
/-- How far the divisor is shifted. -/
theorem shift_of {y k : Nat} (h : (dg y).length = k) (hk : 1 ≤ k) : ∃ s : Nat, 32 * k = bl y + s ∧ s ≤ 31 ∧ (dg (y * 2 ^ s)).length = k := by
  have hyb1 : bl y ≤ 32 * k := by rw [← h]; exact bl_len y
  have hyb2 : 32 * (k - 1) < bl y := by
    refine Nat.not_le.1 fun h1 => ?_
    have h3 := bl_le.1 h1
    rw [Nat.pow_mul] at h3
    have := len_of_lt (n := y) (k := k - 1) h3
    omega
  obtain ⟨s, hs⟩ : ∃ s : Nat, 32 * k = bl y + s := ⟨32 * k - bl y, by omega⟩
  refine ⟨s, hs, by omega, Nat.le_antisymm (len_of_lt ?_) ?_⟩
  · have e : (4294967296 : Nat) ^ k = 2 ^ (32 * k) := by rw [Nat.pow_mul]
    rw [e, hs, Nat.pow_add]
    exact Nat.mul_lt_mul_of_pos_right (bl_lt y) (Nat.two_pow_pos s)
  · rw [← h]; exact len_mono (Nat.le_mul_of_pos_right _ (Nat.two_pow_pos s))
/-- What the estimate says of the row. -/
theorem est_row {row : List Int} {d m : Nat} (hr : dgs row) (hN : row.length = m + 2) (hd : (dg d).length = m + 1) (hlt : vl row < (d : Int) * 4294967296) (h : Int)
    (hh : h = min ((row.getD (m + 1) 0 * 4294967296 + row.getD m 0) / (dg d).getD m 0) 4294967295) : vl row < (h + 1) * d ∧ 0 ≤ h ∧ h < 4294967296 ∧ 1 ≤ (dg d).getD m 0 := by
  have e1 : vl row = vl (row.take m) + BB m * (row.getD (m + 1) 0 * 4294967296 + row.getD m 0) := by
    rw [← vl_take_all row (m + 2) (by omega), vl_take_succ, vl_take_succ, BB_succ m]; generalize row.getD (m + 1) 0 = b, row.getD m 0 = c, BB m = W, vl (row.take m) = v; grind
  have e2 : (d : Int) = vl ((dg d).take m) + BB m * (dg d).getD m 0 := by
    conv => lhs; rw [← vl_dg d, ← vl_take_all (dg d) (m + 1) (by omega), vl_take_succ]
  obtain ⟨p1, p2⟩ := take_bounds hr m
  obtain ⟨p3, p4⟩ := take_bounds (dgs_dg d) m
  obtain ⟨a0, a1⟩ := dgs_getD hr m
  obtain ⟨a2, a3⟩ := dgs_getD hr (m + 1)
  obtain ⟨b0, b1⟩ := dgs_getD (dgs_dg d) m
  have hD : (dg d).getD m 0 ≠ 0 := by
    intro h
    have := last_dg d
    rw [List.getLast?_eq_getElem?, hd] at this
    rw [List.getD_eq_getElem?_getD] at h
    have h2 : (dg d)[m]? = some ((dg d)[m]'(by omega)) := List.getElem?_eq_getElem _
    rw [h2] at h
    apply this
    show (dg d)[m]? = some 0
    rw [h2]; exact congrArg some h
  have hD1 : 1 ≤ (dg d).getD m 0 := by omega
  obtain ⟨f1, f2, f3⟩ := est_least (R := vl row) (y := d) (W := BB m) (BB_pos m) (show 0 < (dg d).getD m 0 by omega) (by rw [Int.mul_comm]; omega) (by rw [Int.add_mul _ 1 (BB m), Int.one_mul, Int.mul_comm]; omega) (by omega) hlt h hh
  exact ⟨f1, f2, f3, hD1⟩
variable {w0 w : World} {l : List (Option Addr × Nat × Nat × Nat)}
set_option maxRecDepth 10000 in
set_option maxHeartbeats 16000000 in
theorem rdiv_great (H : Has w0 w l) (A1 : Option Addr) (k1 c1 x : Nat) (A2 : Option Addr) (k2 c2 y : Nat) (h1 : (A1, k1, c1, x) ∈ l) (h2 : (A2, k2, c2, y) ∈ l) (b1 : k1 ≤ 8000) (hn2 : 2 ≤ k2) (hle : y ≤ x) :
    Calls Tryz.prog 30 #[.slice A1 k1 c1, .slice A2 k2 c2] w (RDiv w0 l (x / y) (x % y)) := by
  obtain ⟨w1, hw1⟩ : ∃ w1, w.alloc (.cells #[.slice none 0 0, .slice none 0 0] 40) = w1 := ⟨_, rfl⟩
  have HH := Lib.hid H
  have H1 : Hid (Has w1 w1 l) := Lib.hid (by rw [← hw1]; exact (HH.out.alloc _).rebase)
  have HW1 := Lib.hid hw1
  have e1 := H.len h1
  have e2 := H.len h2
  have hk12 : k2 ≤ k1 := by rw [← e1, ← e2]; exact len_mono hle
  obtain ⟨r, hr0, hr⟩ : ∃ r, (0 : Int) ≤ r ∧ cmpI x y = r := by
    rcases cmp_case x y with ⟨h, _⟩ | ⟨_, h | h⟩
    · omega
    · exact ⟨0, by omega, h⟩
    · exact ⟨1, by omega, h⟩
  have hrn : ¬ r < 0 := by omega
  have hrd : decide (r < 0) = false := decide_eq_false hrn
  obtain ⟨m, rfl⟩ : ∃ m, k2 = m + 1 := ⟨k2 - 1, by omega⟩
  obtain ⟨s, hs, hs31, hnl⟩ := shift_of e2 (by omega)
  obtain ⟨k2, hk2⟩ : ∃ k2, m + 1 = k2 := ⟨_, rfl⟩
  obtain ⟨d, hd⟩ : ∃ d, y * 2 ^ s = d := ⟨_, rfl⟩
  obtain ⟨X, hX⟩ : ∃ X, x * 2 ^ s = X := ⟨_, rfl⟩
  obtain ⟨L0, hL0⟩ : ∃ L0, (dg X).length = L0 := ⟨_, rfl⟩
  obtain ⟨N, hN⟩ : ∃ N, k1 + 1 = N := ⟨_, rfl⟩
  obtain ⟨M, hM⟩ : ∃ M, N = M + k2 := ⟨N - k2, by omega⟩
  have hll := long_lt (x := x) (y := y) (k1 := k1) (k2 := m) (M := M) (s := s) e1 e2 (by omega)
  have hcapX : L0 ≤ N := by
    rw [← hL0, ← hX, ← hN]
    refine len_of_lt ?_
    have hx1 := lt_of_len (Nat.le_of_eq e1)
    have : (2 : Nat) ^ s ≤ 2 ^ 32 := Nat.pow_le_pow_right (by decide) (by omega)
    rw [Nat.pow_succ]
    exact Nat.mul_lt_mul_of_lt_of_le hx1 (by omega) (by decide)
  have hL1 : k1 ≤ L0 := by rw [← hL0, ← hX, ← e1]; exact len_mono (Nat.le_mul_of_pos_right _ (Nat.two_pow_pos s))
  have hy0 : 0 < y := by
    rcases Nat.eq_zero_or_pos y with h | h
    · subst h; rw [dg_zero] at e2; cases e2
    · exact h
  rw [hk2] at e2 hnl hn2 h2 hk12 hs
  rw [hd] at hnl
  rw [hd, hX] at hll
  have hsi : (32 : Int) * (k2 : Int) - (bl y : Int) = (s : Int) := by omega
  have hsw : wrap64 ((32 : Int) * (k2 : Int)) = 32 * (k2 : Int) := by unfold wrap64; omega
  have hMi : (k1 : Int) - (k2 : Int) = (M : Int) - 1 := by omega
  have hMj : (M : Int) - 1 + 1 = (M : Int) := by omega
  have hMk : (k1 : Int) - (k2 : Int) + 1 = (M : Int) := by omega
  have m1 := run_make_row' (P := Tryz.prog) 23 57 (.int .u32 0) 4 Tryz.underlying23 info57 rfl .i64 .i64 M (by omega) (by omega)
  have hne1 : (k2 : Int) ≠ 1 := by omega
  have hne2 : ((k2 : Int) == 1) = false := by simp; omega
  have C := Lib.hid (rcmp_h H1.out A1 k1 c1 x A2 k2 c2 y h1 h2 (by omega) (by omega) r (Lib.hid hr))
  have B := Lib.hid (rbits_h H1.out A2 k2 c2 y h2 (by omega))
  have S1 := Lib.hid (rshl_h H1.out A2 k2 c2 y s h2 (by omega) (by omega) (fun _ => by omega))
  rw [hd] at S1
  have HD := Lib.hid hd
  have HX := Lib.hid hX
  have HL0 := Lib.hid hL0
  have HNL := Lib.hid hnl
  have HLL := Lib.hid hll
  have HY0 := Lib.hid hy0
  have M1 := Lib.hid h1
  have HM := Lib.hid m1
  have hN8 : N ≤ 8001 := by omega
  clear H hr hd hX hL0 hnl hll hy0 h1 h2 e1 e2 m1 hle hr0 hs
  go_enter Tryz.func30, Tryz.ntmps30
  go_wp2_with fail
  refine C.out.mono ?_
  rintro e w' ⟨rfl, rfl⟩
  clear C
  go_wp2_with fail
  refine B.out.mono ?_
  rintro e w' ⟨rfl, rfl⟩
  clear B
  go_wp2_with fail
  refine S1.out.mono ?_
  rintro e w2 ⟨A3, k3, c3, n3, rfl, hn3, bb3, hh2⟩
  obtain rfl : d = n3 := hn3.out.symm
  obtain rfl : k2 = k3 := by rw [← hh2.len (.head _), HNL.out]
  have H2 := Lib.hid hh2
  obtain ⟨p1, p2, _, _⟩ := H2.out.at (A := A3) (k := k2) (c := c3) (n := d) (.head _)
  obtain ⟨b3, o3, rfl, hc3⟩ := p1 (by intro h; rw [h] at p2; simp at p2; omega)
  obtain ⟨t, ht⟩ : ∃ t, (dg d).getD m 0 = t := ⟨_, rfl⟩
  have hcv : w2.cell? ⟨b3, o3 + m, none⟩ = some (.int .u32 t) := hc3 m t (by rw [List.getElem?_eq_getElem (by omega), ← ht, List.getD_eq_getElem?_getD, List.getElem?_eq_getElem (by omega)]; rfl)
  have HCV := Lib.hid hcv
  have HTT := Lib.hid ht
  clear p1 p2 hc3 ht hcv
  have s2 := rshl_own H2.out A1 k1 c1 x s (.tail _ M1.out) (by omega) (by omega) (by omega)
  rw [HX.out, HL0.out] at s2
  have S2 := Lib.hid s2
  clear S1 hn3 bb3 hh2 s2
  go_wp2_with fail
  refine S2.out.mono ?_
  rintro e w3 ⟨A4, c4, rfl, ho⟩
  clear S2
  have HO := Lib.hid ho
  clear ho
  obtain ⟨i0, hi, hz0, hz1, hz2⟩ := info_u32
  go_wp2_with fail
  go_loopw [8] (fun vu wr => ∃ (kk m : Nat) (ao : Option Addr) (cap : Nat), vu = .slice ao kk cap ∧ Hid (kk = L0 + m) ∧ kk ≤ N ∧ Hid (Out w2 wr ao kk cap (dg X ++ List.replicate m 0))) (fun vu wr => N - slLen vu)
  case atStart => exact ⟨L0, 0, A4, c4, rfl, Lib.hid rfl, hcapX, Lib.hid (by rw [List.replicate_zero, List.append_nil]; exact HO.out)⟩
  case round =>
    obtain ⟨kk, m', ao, cap, rfl, hkk, hkN, HO2⟩ := hrel
    by_cases hlt : kk ≤ k1
    · have hsz := HO2.out.sz
      go_wp2_with (at_builtin; refine wpList_append_own _ rfl _ _ 23 rfl w2.heap.size 57 i0 (.int .u32 0) 1 4 Tryz.underlying23 hi hz0 hz1 hz2 rfl (by decide) _ _ _ rfl (HO2.out.row.alloc _) ⟨wr.heap.size, 0, none⟩ 1 1 [.int .u32 0] rfl rfl (cell_one_new _ _ _) (by simp [Value.oneCell']) (by unfold maxLen; omega) (by omega) (by simp; omega) ?_; intro v' w2 hown' hgrow _; have Hg' := Lib.hid (show (wr.alloc (.cells #[.int .u32 0] 57)).grownBy w2 (Value.slice ao kk cap).ownBlock from hgrow); clear hgrow; obtain ⟨g', cap', rfl⟩ := ownsRow_succ hown'; have HO3 := Lib.hid (HO2.out.next Hg'.out hown'); clear hown' Hg')
      exact ⟨⟨kk + 1, m' + 1, _, cap', rfl, Lib.hid (by have := hkk.out; omega), by omega, Lib.hid (by rw [List.replicate_succ', ← List.append_assoc]; exact HO3.out)⟩, by simp only [slLen]; omega⟩
    · obtain rfl : kk = N := by omega
      obtain ⟨U, hU⟩ : ∃ U, dg X ++ List.replicate m' 0 = U := ⟨_, rfl⟩
      have hok : dgs U := by rw [← hU]; exact dgs_append.2 ⟨dgs_dg X, dgs_zeros _⟩
      have hvl : vl U = X := by rw [← hU, vl_append, vl_zeros, vl_dg]; omega
      have ho2 := HO2.out
      rw [hU] at ho2
      obtain ⟨g, rfl, hg2, hUl, hUc, hcm, hWU⟩ := ho2.wr (by omega)
      have hgb : g < wr.heap.size := by have := ho2.row.lt g rfl; exact this.2
      have HB2 := Lib.hid ho2.bl
      have hst := LongInv.start (n := k2) (N := kk) (M := M) hUl hM.symm hok hvl HLL.out
      have HST := Lib.hid hst
      have HWU := Lib.hid hWU
      obtain ⟨gq, hgq⟩ : ∃ gq, wr.heap.size = gq := ⟨_, rfl⟩
      obtain ⟨W, hW⟩ : ∃ W, wr.alloc (.cells (madeCells #[.int .u32 0] M) 57) = W := ⟨_, rfl⟩
      have HWQ : Hid (Wr W gq 0 (List.replicate M 0)) := Lib.hid (by rw [← hW, ← hgq]; exact Wr.made _ _ _)
      have HBW : Hid (Below wr.heap.size wr W) := Lib.hid (by rw [← hW]; exact (Below.refl _ _).alloc (Nat.le_refl _) _)
      have HWL : Hid (Wr W g 0 U) := Lib.hid (HWU.out.below HBW.out hgb)
      have HB3 : Hid (Below w2.heap.size w2 W) := Lib.hid (HB2.out.trans (HBW.out.mono HB2.out.size))
      have hgq2 : g < gq := by omega
      have hgq3 : w2.heap.size ≤ gq := by omega
      have m1 := HM.out
      have HMN := Lib.hid hM
      have hdk1 : decide ((kk : Int) ≤ (k1 : Int)) = false := decide_eq_false (by omega)
      have hdk2 : decide (kk ≤ k1) = false := decide_eq_false hlt
      clear ho2 hU hok hvl hWU hst HO2 HO HWU HBW HB2 hi hz0 hz1 hz2 hcapX hL1 hkk hlt hkN hn2 hk12 hM
      go_wp2_with fail
      go_loopw [10, 11, 12, 13, 14, 15, 16, 17, 18] (fun v10 v11 v12 v13 v14 v15 v16 v17 v18 wr => ∃ (j : Nat) (L qs : List Int), j ≤ M ∧ v10 = .int .i64 ((j : Int) - 1) ∧ Hid (LongInv X d k2 kk j L qs) ∧ Hid (Wr wr g 0 L) ∧ Hid (Wr wr gq 0 (List.replicate j 0 ++ qs)) ∧ Hid (Below w2.heap.size w2 wr)) (fun v10 v11 v12 v13 v14 v15 v16 v17 v18 wr => (intOf v10 + 1).toNat)
      case atStart => exact ⟨M, U, [], Nat.le_refl _, rfl, HST, HWL, by rw [List.append_nil]; exact HWQ, HB3⟩
      case round =>
        obtain ⟨wj, rfl⟩ : ∃ wj, wj = wr := ⟨_, rfl⟩
        obtain ⟨j, L, qs, hj, rfl, HI, HWL, HWQ, HBR⟩ := hrel
        cases j with
        | zero =>
          have hz : ¬ (0 : Int) ≤ ((0 : Nat) : Int) - 1 := by omega
          obtain ⟨f1, f2⟩ := LongInv.fin HY0.out (by rw [HX.out, HD.out]; exact HI.out)
          have hql : qs.length = M := by have := HI.out.lenq; have := HMN.out; omega
          have hwq : Wr wj gq 0 qs := by have := HWQ.out; simpa using this
          have F1 := Lib.hid f1
          have F2 := Lib.hid f2
          have QL := Lib.hid hql
          have QW := Lib.hid hwq
          clear f1 f2 hql hwq
          go_wp2_with fail
          refine (rtrim_calls _ M M qs (x / y) wj QL.out (Nat.le_refl _) (by omega) (by omega) HI.out.okq F1.out QW.out.rd).mono ?_
          rintro e w6 ⟨A6, c6, rfl, hr6, h61, h62, hb6⟩
          have HR6 := Lib.hid ((((H2.out.below HBR.out).below hb6).cons hr6 rfl h61 h62))
          have HL6 : Hid (Rd .u32 w6 (some ⟨g, 0, none⟩) L) := Lib.hid ((HWL.out.below hb6 (HWL.out.lt (by intro h; have := HI.out.lenL; rw [h] at this; simp at this; omega))).rd)
          clear hr6 h61 h62 hb6
          go_wp2_with fail
          refine (rtrim_calls _ cap kk L (x % y * 2 ^ s) w6 HI.out.lenL hUc hcm (by omega) HI.out.okL F2.out HL6.out).mono ?_
          rintro e w7 ⟨A7, c7, rfl, hr7, h71, h72, hb7⟩
          have HR7 := Lib.hid ((HR6.out.below hb7).cons hr7 rfl h71 h72)
          have hl7 : (dg (x % y * 2 ^ s)).length ≤ kk := by
            have h1 := take_dg L (x % y * 2 ^ s) HI.out.okL F2.out
            rw [← HI.out.lenL]; exact h1.1
          clear hr7 h71 h72 hb7
          go_wp2_with fail
          refine (rshr_h HR7.out A7 _ c7 (x % y * 2 ^ s) s (.head _) (by omega) (by omega)).mono ?_
          rintro e w8 ⟨A8, k8, c8, n8, rfl, hn8, b8, h8⟩
          rw [hn8.out, Nat.mul_div_cancel _ (Nat.two_pow_pos s)] at h8
          have H8 := Lib.hid h8
          have hl6 : (dg (x / y)).length ≤ 8000 := Nat.le_trans (lenle (Nat.div_le_self _ _) (Nat.le_of_eq (HH.out.len M1.out))) b1
          obtain ⟨kq, hkq⟩ : ∃ kq, (dg (x / y)).length = kq := ⟨_, rfl⟩
          rw [hkq] at hl6 H8
          have HKQ := Lib.hid hkq
          clear hn8 h8 HR6 HL6 HR7
          rw [hkq]
          clear hkq
          have HG := DCell.row 40 HW1.out H8.out
          go_wp2_with (refine wpList_store_row (o := { dst := none, op := .store 40 (.tmp 4) (.tmp 175), type := 0, pos := _, after := _, guard := none }) rfl 40 (.tmp 4) (.tmp 175) rfl w.heap.size #[.slice A6 kq c6, .slice A8 k8 c8] rfl rfl 40 #[.slice none 0 0, .slice none 0 0] HG (by kernel_rfl) rfl (by simp [Value.oneCell']) ?_)
          refine bodyPost_ret (results_cell_row rfl _ _ w.heap.size 40 _ (0, 0) _ rfl (setRow_heap _ _ _ _ _ _ HG) Tryz.underlying40 rfl (by kernel_rfl)) rfl ?_
          have HF := has_cell HH.out 40 HW1.out H8.out #[.slice A6 kq c6, .slice A8 k8 c8]
          refine ⟨A6, kq, c6, A8, k8, c8, rfl, by omega, by omega, Lib.hid (HF.keep (fun p hp => ?_))⟩
          rcases List.mem_cons.1 hp with rfl | hp
          · exact .tail _ (.tail _ (.head _))
          · rcases List.mem_cons.1 hp with rfl | hp
            · exact .head _
            · exact .tail _ (.tail _ (.tail _ (.tail _ hp)))
        | succ j =>
          have hz : ((j + 1 : Nat) : Int) - 1 = j := by omega
          have hjM : j < M := by omega
          have hjN : j + k2 + 1 ≤ kk := by have := HMN.out; omega
          obtain ⟨q1, q2, q3, q4, q5⟩ := HI.out.row HNL.out
          obtain ⟨row, hrow⟩ : ∃ r, (L.drop j).take (k2 + 1) = r := ⟨_, rfl⟩
          rw [hrow] at q1 q2 q5
          have hwr : Wr wj g j row := by
            have := (HWL.out.drop j).take (k2 + 1)
            rwa [Nat.zero_add, hrow] at this
          obtain ⟨ra, hra⟩ : ∃ z, row.getD (m + 1) 0 = z := ⟨_, rfl⟩
          obtain ⟨rb, hrb⟩ : ∃ z, row.getD m 0 = z := ⟨_, rfl⟩
          obtain ⟨a0, a1⟩ := dgs_getD q2 (m + 1)
          obtain ⟨a2, a3⟩ := dgs_getD q2 m
          obtain ⟨t0, t1⟩ := dgs_getD (dgs_dg d) m
          rw [hra] at a0 a1
          rw [hrb] at a2 a3
          rw [HTT.out] at t0 t1
          obtain ⟨top, htop⟩ : ∃ z, ra * 4294967296 + rb = z := ⟨_, rfl⟩
          obtain ⟨tq, htq⟩ : ∃ z, top / t = z := ⟨_, rfl⟩
          obtain ⟨q0, hq0⟩ : ∃ z, min tq 4294967295 = z := ⟨_, rfl⟩
          obtain ⟨u1, u2, u3, u4'⟩ := est_row (m := m) q2 (by rw [q1]; omega) (by rw [HNL.out]; exact hk2.symm) q5 q0 (by rw [hra, hrb, HTT.out, htop, htq, hq0])
          rw [HTT.out] at u4'
          obtain ⟨j2, hj2⟩ : ∃ j2, j + m = j2 := ⟨_, rfl⟩
          have ix1 : (j : Int) + (k2 : Int) - 1 = (j2 : Int) := by omega
          have ix2 : (k2 : Int) - 1 = (m : Int) := by omega
          have hj2N : j2 < kk := by omega
          have hmk : m < k2 := by omega
          have ca : ∀ n, (wj.drewN n).cell? ⟨g, j + k2, none⟩ = some (.int .u32 ra) := fun n => (hwr.drewN n).rdd k2 ra (by omega) (by rw [← hk2]; exact hra)
          have cb : ∀ n, (wj.drewN n).cell? ⟨g, j2, none⟩ = some (.int .u32 rb) := fun n => by rw [← hj2]; exact (hwr.drewN n).rdd m rb (by omega) hrb
          have cv : ∀ n, (wj.drewN n).cell? ⟨b3, o3 + m, none⟩ = some (.int .u32 t) := fun n => by
            rw [World.cell?_drewN, HBR.out.cell (p := ⟨b3, o3 + m, none⟩) (World.block_lt_of_cell? w2 _ HCV.out)]; exact HCV.out
          have ca0 : wj.cell? ⟨g, j + k2, none⟩ = some (.int .u32 ra) := ca 0
          have cb0 : wj.cell? ⟨g, j2, none⟩ = some (.int .u32 rb) := cb 0
          have cv0 : wj.cell? ⟨b3, o3 + m, none⟩ = some (.int .u32 t) := cv 0
          have htz : (t == 0) = false := by simp; omega
          have hsl : IntKind.u64.wrap (ra * 4294967296) = ra * 4294967296 := by rw [IntKind.wrap_u64]; omega
          have htp : IntKind.u64.wrap top = top := by rw [IntKind.wrap_u64]; omega
          have HROW := Lib.hid hrow
          have HQ1 := Lib.hid q1
          have HQ2 := Lib.hid q2
          have HQ5 := Lib.hid q5
          have HUP := Lib.hid u1
          have HWR := Lib.hid hwr
          clear q1 q2 q3 q4 q5 hrow hwr hra hrb u1 hj2 hj
          rw [hz]
          have hge : decide ((0 : Int) ≤ (j : Int)) = true := decide_eq_true (by omega)
          clear hz
          have HOO : ∀ n, Hid (Only wj (wj.drewN n) g j (k2 + 1)) := fun n => Lib.hid ((Only.refl wj g j (k2 + 1)).drewN n)
          have HWW : ∀ n, Hid (Wr (wj.drewN n) g j row) := fun n => Lib.hid (HWR.out.drewN n)
          go_wp2_with fail
          go_quiet (fail)
          clear ca cb cv ca0 cb0 cv0 htop htq hq0 hsl htp htz ix1 ix2
          go_wp2_with fail
          go_loopw [12, 13, 14, 15, 16] (fun v12 v13 v14 v15 v16 wx => ∃ (i : Nat) (res : List Int) (c b : Int), i ≤ k2 + 1 ∧ v14 = .int .i64 i ∧ v12 = .int .u64 c ∧ v13 = .int .u64 b ∧ Hid (RSub row d q0 i res c b) ∧ Hid (Wr wx g j (res ++ row.drop i)) ∧ Hid (Only wj wx g j (k2 + 1))) (fun v12 v13 v14 v15 v16 wx => k2 + 1 - (intOf v14).toNat)
          case atStart => exact ⟨0, [], 0, 0, Nat.zero_le _, rfl, rfl, rfl, Lib.hid (RSub.start _ _ _), HWW _, HOO _⟩
          case round =>
            obtain ⟨i, res, cy, bo, hik, rfl, rfl, rfl, HA, HW2, HO2⟩ := hrel
            by_cases hlt : i ≤ k2
            · obtain ⟨xi, hxi⟩ : ∃ z, row.getD i 0 = z := ⟨_, rfl⟩
              obtain ⟨yi, hyi⟩ : ∃ z, (dg d).getD i 0 = z := ⟨_, rfl⟩
              obtain ⟨x0, x1⟩ := dgs_getD HQ2.out i
              obtain ⟨y0, y1⟩ := dgs_getD (dgs_dg d) i
              rw [hxi] at x0 x1
              rw [hyi] at y0 y1
              have cy0 := HA.out.c0
              have cy1 := HA.out.c1
              have bo0 := HA.out.b0
              have bo1 := HA.out.b1
              obtain ⟨p0, p1⟩ := mul_lt_word y0 y1 u2 u3 cy0 cy1
              have hP0 := Int.mul_nonneg y0 u2
              obtain ⟨P, hP⟩ : ∃ P, yi * q0 = P := ⟨_, rfl⟩
              rw [hP] at p0 p1 hP0
              have hwP : IntKind.u64.wrap (yi * q0) = P := by rw [hP, IntKind.wrap_u64]; omega
              obtain ⟨p, hp⟩ : ∃ p, P + cy = p := ⟨_, rfl⟩
              rw [hp] at p0 p1
              have hwp : IntKind.u64.wrap p = p := by rw [IntKind.wrap_u64]; omega
              obtain ⟨pl, hpl⟩ : ∃ pl, p % 4294967296 = pl := ⟨_, rfl⟩
              obtain ⟨ph, hph⟩ : ∃ ph, p / 4294967296 = ph := ⟨_, rfl⟩
              obtain ⟨e1, e2, z, bo', he1, he2, hz1, hb1, hz2, hb2, z0, z1, e20, e21⟩ := borrow_of (x := xi) (pl := pl) (b := bo) x0 x1 (by omega) (by omega) bo0 bo1
              have hA := RSub.step u2 u3 HA.out xi yi p (xi - p % 4294967296 - bo) z bo' HQ2.out hxi hyi (by rw [← hp, hP]) rfl (by rw [hpl]; exact hz2) (by rw [hpl]; exact hb2)
              rw [hph] at hA
              have hcell := HW2.out i xi (by
                have h := part_get res row (by rw [HA.out.len, HQ1.out]; omega)
                rw [HA.out.len, hxi] at h; exact h)
              obtain ⟨hc1, hc2⟩ := hcell
              have hw : Wr (Go.World.setCell wr ⟨g, j + i, none⟩ (.int .u32 z)) g j ((res ++ [z]) ++ row.drop (i + 1)) := by
                have := HW2.out.set i z
                rw [← HA.out.len, part_set res row z (by rw [HA.out.len, HQ1.out]; omega), HA.out.len] at this
                exact this
              have HAS := Lib.hid hA
              have HWS := Lib.hid hw
              have HOS := Lib.hid (HO2.out.set i (by omega) (.int .u32 z))
              have C := Lib.hid (rat_h (H2.out.below (HBR.out.trans (HO2.out.below hg2 HBR.out.size))) (some ⟨b3, o3, none⟩) k2 c3 d i (.head _) (by omega) yi (Lib.hid hyi))
              have hji : j + i < kk := by omega
              clear hA hw hxi hyi hz2 hb2 hP
              go_wp2_with fail
              refine C.out.mono ?_
              rintro e w' ⟨rfl, rfl⟩
              go_wp2_with fail
              clear he1 he2 hz1 hb1 hwP hwp hp hpl hph
              go_roundw
              case rel => exact ⟨i + 1, _, ph, bo', by omega, by go_num, rfl, rfl, HAS, HWS, HOS⟩
              case measure => simp [intOf]; omega
            · have hik2 : i = k2 + 1 := by omega
              have hfin := RSub.fin u2 u3 (by rw [← hik2]; exact HA.out) HQ1.out HNL.out
              have hR0 := vl_nonneg HQ2.out
              have hRB := vl_lt HQ2.out
              rw [HQ1.out] at hRB
              have HRA : Hid (RAdd (vl row) d k2 q0 bo res) := Lib.hid ⟨by rw [HA.out.len]; exact hik2, HA.out.ok, u2, u3, HA.out.b0, HA.out.b1, HUP.out, hfin⟩
              have HW3 : Hid (Wr wr g j res) := Lib.hid (by have := HW2.out; rwa [hik2, ← HQ1.out, List.drop_length, List.append_nil] at this)
              have HR0 := Lib.hid hR0
              have HRB := Lib.hid hRB
              clear hfin hR0 hRB hik2 HW2
              go_wp2_with fail
              go_loopw [11, 12, 13, 17, 18] (fun v11 v12 v13 v17 v18 wx => ∃ (hh bb : Int) (res : List Int), v11 = .int .u64 hh ∧ v13 = .int .u64 bb ∧ Hid (RAdd (vl row) d k2 hh bb res) ∧ Hid (Wr wx g j res) ∧ Hid (Only wj wx g j (k2 + 1))) (fun v11 v12 v13 v17 v18 wx => (intOf v11).toNat)
              case atStart => exact ⟨q0, bo, res, rfl, rfl, HRA, HW3, HO2⟩
              case round =>
                obtain ⟨hh, bb, r1, rfl, rfl, HR, HW4, HO4⟩ := hrel
                have bb0 := HR.out.b0
                have bb1 := HR.out.b1
                have h0 := HR.out.h0
                have h1 := HR.out.h1
                by_cases hb : 0 < bb
                · obtain rfl : bb = 1 := by omega
                  have hpos := HR.out.pos HR0.out HRB.out
                  have hwq : IntKind.u64.wrap (hh - 1) = hh - 1 := by rw [IntKind.wrap_u64]; omega
                  have HW5 : Hid (Wr wr g j ([] ++ r1.drop 0)) := HW4
                  have hdb : decide ((0 : Int) < 1) = true := by decide
                  go_wp2_with fail
                  go_loopw [12, 17, 18] (fun v12 v17 v18 wx => ∃ (i : Nat) (out : List Int) (cy : Int), i ≤ k2 + 1 ∧ v17 = .int .i64 i ∧ v12 = .int .u64 cy ∧ 0 ≤ cy ∧ cy ≤ 1 ∧ Hid (AddInv r1 (dg d) i out cy) ∧ Hid (Wr wx g j (out ++ r1.drop i)) ∧ Hid (Only wj wx g j (k2 + 1))) (fun v12 v17 v18 wx => k2 + 1 - (intOf v17).toNat)
                  case atStart => exact ⟨0, [], 0, Nat.zero_le _, rfl, rfl, by omega, by omega, Lib.hid (AddInv.start _ _), HW5, HO4⟩
                  case round =>
                    obtain ⟨i, out, cy, hik, rfl, rfl, cy0, cy1, HA, HW6, HO6⟩ := hrel
                    by_cases hlt : i ≤ k2
                    · obtain ⟨xi, hxi⟩ : ∃ z, r1.getD i 0 = z := ⟨_, rfl⟩
                      obtain ⟨yi, hyi⟩ : ∃ z, (dg d).getD i 0 = z := ⟨_, rfl⟩
                      obtain ⟨x0, x1⟩ := dgs_getD HR.out.ok i
                      obtain ⟨y0, y1⟩ := dgs_getD (dgs_dg d) i
                      rw [hxi] at x0 x1
                      rw [hyi] at y0 y1
                      have hA := AddInv.step HR.out.ok (dgs_dg d) HA.out (xi + yi + cy) (by rw [hxi, hyi]; omega)
                      have hpg : (out ++ r1.drop i)[i]? = some xi := by
                        have h := part_get out r1 (by rw [HA.out.len, HR.out.len]; omega)
                        rw [HA.out.len, hxi] at h; exact h
                      have hcc : ∀ n, (wr.drewN n).cell? ⟨g, j + i, none⟩ = some (.int .u32 xi) := fun n => ((HW6.out.drewN n) i xi hpg).1
                      have hcf : ∀ n, (wr.drewN n).frozen? ⟨g, j + i, none⟩ = false := fun n => ((HW6.out.drewN n) i xi hpg).2
                      have hcc0 : wr.cell? ⟨g, j + i, none⟩ = some (.int .u32 xi) := hcc 0
                      have hw : ∀ n v, Wr (Go.World.setCell (wr.drewN n) ⟨g, j + i, none⟩ (.int .u32 v)) g j ((out ++ [v]) ++ r1.drop (i + 1)) := fun n v => by
                        have := (HW6.out.drewN n).set i v
                        rw [← HA.out.len, part_set out r1 v (by rw [HA.out.len, HR.out.len]; omega), HA.out.len] at this
                        exact this
                      have ho : ∀ n v, Only wj (Go.World.setCell (wr.drewN n) ⟨g, j + i, none⟩ v) g j (k2 + 1) := fun n v => (HO6.out.drewN n).set i (by omega) v
                      have hHx := fun n => (H2.out.below (HBR.out.trans ((HO6.out.drewN n).below hg2 HBR.out.size)))
                      have C := fun n => rat_h (hHx n) (some ⟨b3, o3, none⟩) k2 c3 d i (.head _) (by omega) yi (Lib.hid hyi)
                      have HAS := Lib.hid hA
                      have HWS := Lib.hid hw
                      have HOS := Lib.hid ho
                      have HC := Lib.hid C
                      have hji : j + i < kk := by omega
                      clear hA hw ho hxi hyi hpg hHx C
                      go_wp2_with fail
                      go_quiet ((go_at_call 81; exact Calls.quiet_of_same ((HC.out _).mono (by rintro e w' ⟨rfl, rfl⟩; exact ⟨rfl, rfl⟩))))
                      go_wp2_with fail
                      exact ⟨⟨i + 1, _, _, by omega, by go_num, rfl, by omega, by omega, HAS, Lib.hid (HWS.out _ _), Lib.hid (HOS.out _ _)⟩, by simp [intOf]; omega⟩
                    · have hik2 : i = k2 + 1 := by omega
                      have hbk := AddInv.back (N := k2 + 1) HR.out.len (by rw [HNL.out]; omega) (by rw [← hik2]; exact HA.out)
                      have hRS := RAdd.step (c := cy) HR0.out HRB.out HR.out (by rw [HA.out.len]; exact hik2) HA.out.ok cy0 cy1 (by rw [Int.mul_comm]; exact hbk)
                      have hw : Wr wr g j out := by have := HW6.out; rwa [hik2, ← HR.out.len, List.drop_length, List.append_nil] at this
                      have hwc : IntKind.u64.wrap (1 - cy) = 1 - cy := by rw [IntKind.wrap_u64]; omega
                      have HRS := Lib.hid hRS
                      have HWS := Lib.hid hw
                      clear hbk hRS hw hik2
                      go_wp2_with fail
                      exact ⟨⟨hh - 1, 1 - cy, out, rfl, rfl, HRS, HWS, HO6⟩, by simp [intOf]; omega⟩
                · obtain rfl : bb = 0 := by omega
                  have hdb : decide ((0 : Int) < 0) = false := by decide
                  obtain ⟨g1, g2⟩ := HR.out.fin
                  have hL := HI.out.step HNL.out hh r1 h0 h1 HR.out.len HR.out.ok (by rw [HROW.out]; exact g1) g2
                  have hwl := HWL.out.patch HO4.out HW4.out HR.out.len (by rw [HI.out.lenL]; omega)
                  have hwq := HO4.out.wr HWQ.out (by omega)
                  have hbr := HBR.out.trans (HO4.out.below hg2 HBR.out.size)
                  obtain ⟨hc1, hc2⟩ := hwq j 0 (low_get qs j)
                  rw [Nat.zero_add] at hc1 hc2
                  have hwq2 : Wr (Go.World.setCell wr ⟨gq, j, none⟩ (.int .u32 hh)) gq 0 (List.replicate j 0 ++ hh :: qs) := by
                    have := hwq.set j hh
                    rwa [Nat.zero_add, low_set] at this
                  have hwl2 := hwl.other ⟨gq, j, none⟩ (.int .u32 hh) (by show g ≠ gq; omega)
                  have hbr2 := hbr.setCell (p := ⟨gq, j, none⟩) hgq3 (.int .u32 hh)
                  have hhm : hh % 4294967296 = hh := Int.emod_eq_of_lt h0 h1
                  have X1 := Lib.hid hL
                  have X2 := Lib.hid hwl2
                  have X3 := Lib.hid hwq2
                  have X4 := Lib.hid hbr2
                  clear hL hwl hwq hbr hwq2 hwl2 hbr2 g1 g2
                  go_wp2_with fail
                  exact ⟨⟨j, _, _, by omega, rfl, X1, X2, X3, X4⟩, by simp [intOf]⟩
end Go.Proofs.YtfcfejlffmddnaaGreatDoor
end
section
/- Contracts of the reference: Div, whole; Gcd. -/
namespace Go.Proofs.YtfcfejlffmddnaaGreatDoor
open Go.RowKit
set_option linter.unusedSimpArgs false
set_option linter.unusedVariables false
set_option linter.constructorNameAsVariable false

variable {w0 w : World} {l : List (Option Addr × Nat × Nat × Nat)}
theorem rdiv_h (H : Has w0 w l) (A1 : Option Addr) (k1 c1 x : Nat) (A2 : Option Addr) (k2 c2 y : Nat) (h1 : (A1, k1, c1, x) ∈ l) (h2 : (A2, k2, c2, y) ∈ l) (b1 : k1 ≤ 8000) (b2 : k2 ≤ 8000) (hy : 0 < y) :
    Calls Tryz.prog 30 #[.slice A1 k1 c1, .slice A2 k2 c2] w (RDiv w0 l (x / y) (x % y)) := by
  by_cases hk : k2 = 1
  · subst hk; exact rdiv_one H A1 k1 c1 x A2 c2 y h1 h2 (by omega)
  · by_cases hlt : x < y
    · exact rdiv_less H A1 k1 c1 x A2 k2 c2 y h1 h2 (by omega) (by omega) hk hlt
    · refine rdiv_great H A1 k1 c1 x A2 k2 c2 y h1 h2 b1 ?_ (by omega)
      have e2 := H.len h2
      rcases Nat.eq_zero_or_pos k2 with h | h
      · subst h
        have := (dg_nil_iff y).1 e2
        omega
      · omega
set_option maxRecDepth 10000 in
set_option maxHeartbeats 2000000 in
theorem rgcd_h (H : Has w0 w l) (A1 : Option Addr) (k1 c1 a : Nat) (A2 : Option Addr) (k2 c2 b : Nat) (h1 : (A1, k1, c1, a) ∈ l) (h2 : (A2, k2, c2, b) ∈ l) (b1 : k1 ≤ 8000) (b2 : k2 ≤ 8000) :
    Calls Tryz.prog 32 #[.slice A1 k1 c1, .slice A2 k2 c2] w (Made w0 l (Nat.gcd a b) 8000) := by
  have hst : Has w0 w ((A1, k1, c1, a) :: (A2, k2, c2, b) :: l) := H.keep (fun p hp => by
    simp only [List.mem_cons] at hp
    rcases hp with rfl | rfl | hp <;> assumption)
  have HS := Lib.hid hst
  clear H hst h1 h2
  go_enter Tryz.func32, Tryz.ntmps32
  go_wp2_with fail
  go_loopw [0, 1, 5] (fun v0 v1 v5 wr => ∃ (A : Option Addr) (k c x : Nat) (A' : Option Addr) (k' c' y : Nat), v0 = .slice A k c ∧ v1 = .slice A' k' c' ∧ k ≤ 8000 ∧ k' ≤ 8000 ∧ Hid (Nat.gcd x y = Nat.gcd a b) ∧ Hid (Has w0 wr ((A, k, c, x) :: (A', k', c', y) :: l))) (fun v0 v1 v5 wr => numOf wr v1)
  case atStart => exact ⟨A1, k1, c1, a, A2, k2, c2, b, rfl, rfl, b1, b2, Lib.hid rfl, HS⟩
  case round =>
    obtain ⟨A, k, c, x, A', k', c', y, rfl, rfl, hk, hk', HG, HX⟩ := hrel
    have hzq : Hid (numOf wr (.slice A' k' c') = y) := Lib.hid (HX.out.numOf (by simp))
    have hyl := HX.out.len (A := A') (k := k') (c := c') (n := y) (by simp)
    by_cases h0 : 0 < k'
    · have hy0 : 0 < y := pos_of_len hyl h0
      have HY := Lib.hid hy0
      have hd : decide ((0 : Int) < k') = true := decide_eq_true (by omega)
      have D := Lib.hid (rdiv_h HX.out A k c x A' k' c' y (.head _) (.tail _ (.head _)) hk hk' hy0)
      clear hyl hy0
      go_wp2_with fail
      refine D.out.mono ?_
      rintro e w3 ⟨A5, k5, c5, A6, k6, c6, rfl, b5, b6, H5⟩
      have hk6 : k6 ≤ 8000 := by
        have e6 := H5.out.len (.tail _ (.head _))
        have e' := H5.out.len (A := A') (k := k') (c := c') (n := y) (by simp)
        have := len_mono (Nat.le_of_lt (Nat.mod_lt x HY.out))
        omega
      obtain ⟨W, hW⟩ : ∃ W, w3.alloc (.cells #[.slice A5 k5 c5, .slice A6 k6 c6] 40) = W := ⟨_, rfl⟩
      have HH5 : Hid (Has w0 W ((A', k', c', y) :: (A6, k6, c6, x % y) :: l)) := Lib.hid (by
        rw [← hW]
        exact (H5.out.alloc _).keep (by
          intro p hp
          simp only [List.mem_cons] at hp ⊢
          rcases hp with rfl | rfl | hp <;> simp [*]))
      have c1' : W.cell? ⟨w3.heap.size, 1, none⟩ = some (.slice A6 k6 c6) := by rw [← hW, Lib.cell_of_heap (World.alloc_heap_new _ _)]; rfl
      have HW := Lib.hid hW
      have HD := Lib.hid (World.alloc_heap_new w3 (.cells #[.slice none 0 0, .slice none 0 0] 40))
      clear D H5
      go_wp2_with (refine wpList_store_row (o := { dst := none, op := .store 40 (.tmp 5) (.tmp 11), type := 0, pos := _, after := _, guard := none }) rfl 40 (.tmp 5) (.tmp 11) rfl w3.heap.size #[.slice A5 k5 c5, .slice A6 k6 c6] rfl rfl 40 #[.slice none 0 0, .slice none 0 0] HD.out (by kernel_rfl) rfl (by simp [Value.oneCell']) ?_; rw [World.setRow_alloc_new, HW.out])
      refine ⟨⟨A', k', c', y, A6, k6, c6, x % y, rfl, rfl, hk', hk6, Lib.hid (by rw [gcd_turn]; exact HG.out), HH5⟩, ?_⟩
      rw [hzq.out, HH5.out.numOf (A := A6) (k := k6) (c := c6) (n := x % y) (by simp)]
      exact Nat.mod_lt _ HY.out
    · obtain rfl : k' = 0 := by omega
      have hy0 : y = 0 := (dg_nil_iff y).1 hyl
      have hg : x = Nat.gcd a b := by rw [← HG.out, hy0, Nat.gcd_zero_right]
      have HG2 := Lib.hid hg
      clear hyl hy0 hg
      go_wp2_with fail
      go_ret
      exact ⟨A, k, c, x, rfl, HG2, hk, HX.out.keep (fun p hp => by
        simp only [List.mem_cons] at hp ⊢
        rcases hp with rfl | hp <;> simp [*])⟩
end Go.Proofs.YtfcfejlffmddnaaGreatDoor
end
section
/- The law NatQuotients. -/
namespace Go.Proofs.YtfcfejlffmddnaaGreatDoor
open Go.RowKit
set_option linter.unusedSimpArgs false
set_option linter.unusedVariables false
set_option linter.constructorNameAsVariable false

variable {w0 w : World} {l : List (Option Addr × Nat × Nat × Nat)}
theorem gcdL_bad {g1 g2 : List Int} (h : (validB g1 && validB g2) = false) : gcdL g1 g2 = (1, 0) := by unfold gcdL; rw [h]; rfl
theorem divL_bad {g1 g2 : List Int} (h : (validB g1 && validB g2) = false) : divL g1 g2 = (1, 0, 0) := by unfold divL; rw [h]; rfl
set_option maxRecDepth 100000 in
set_option maxHeartbeats 4000000 in
theorem quotients_calls (w : World) (hT : Tabs w) (A1 : Option Addr) (k1 c1 : Nat) (g1 : List Int) (A2 : Option Addr) (k2 c2 : Nat) (g2 : List Int) (i1 : Inp w A1 k1 c1 g1) (i2 : Inp w A2 k2 c2 g2) :
    Calls Tryz.prog 4 #[.slice A1 k1 c1, .slice A2 k2 c2] w (True1 w) := by
  have HT := Lib.hid hT
  have I1 := Lib.hid i1
  have I2 := Lib.hid i2
  have H0 := Lib.hid (Has.nil w)
  clear hT i1 i2
  by_cases q1 : k1 ≤ 120
  case neg =>
    by_cases q2 : k1 ≤ 1024
    case pos =>
      go_enter Tryz.func4, Tryz.ntmps4
      go_wp2_with fail
      refine (light_calls A1 k1 c1 120 w false (Lib.hid (decide_eq_false q1))).mono ?_
      rintro e w' ⟨rfl, rfl⟩
      go_wp2_with fail
      refine (sanity_at H0 HT).mono ?_
      rintro e w1 ⟨rfl, H1⟩
      clear H0
      go_wp2_with fail
      go_ret
      exact ⟨rfl, H1.out.b⟩
    case neg =>
      by_cases q3 : k2 ≤ 60
      case neg =>
        go_enter Tryz.func4, Tryz.ntmps4
        go_wp2_with fail
        refine (light_calls A1 k1 c1 120 w false (Lib.hid (decide_eq_false q1))).mono ?_
        rintro e w' ⟨rfl, rfl⟩
        go_wp2_with fail
        refine (light_calls A2 k2 c2 60 w false (Lib.hid (decide_eq_false q3))).mono ?_
        rintro e w' ⟨rfl, rfl⟩
        go_wp2_with fail
        refine (sanity_at H0 HT).mono ?_
        rintro e w1 ⟨rfl, H1⟩
        clear H0
        go_wp2_with fail
        go_ret
        exact ⟨rfl, H1.out.b⟩
      case pos =>
        have v1 : validB g1 = false := by
          have h := I1.out.len
          cases hv : validB g1 with
          | false => rfl
          | true => exact absurd (I1.out.num H0.out hv).choose_spec.2.1 (by omega)
        have hv : (validB g1 && validB g2) = false := by rw [v1]; rfl
        go_enter Tryz.func4, Tryz.ntmps4
        go_wp2_with fail
        refine (light_calls A1 k1 c1 120 w false (Lib.hid (decide_eq_false q1))).mono ?_
        rintro e w' ⟨rfl, rfl⟩
        go_wp2_with fail
        refine (light_calls A2 k2 c2 60 w true (Lib.hid (decide_eq_true q3))).mono ?_
        rintro e w' ⟨rfl, rfl⟩
        go_wp2_with fail
        refine (Div_l H0.out A1 k1 c1 g1 A2 k2 c2 g2 (I1.out.below H0.out.b) (I2.out.below H0.out.b) 1 0 0 (Lib.hid (divL_bad hv))).mono ?_
        rintro e w1 ⟨B1, j1, d1, B1', j1', d1', rfl, b1, b1', h⟩
        have H1 := Lib.hid h
        clear h H0
        go_wp2_with fail
        refine (Gcd_l H1.out A1 k1 c1 g1 A2 k2 c2 g2 (I1.out.below H1.out.b) (I2.out.below H1.out.b) 1 (0) (Lib.hid (gcdL_bad hv))).mono ?_
        rintro e w2 ⟨B2, j2, d2, rfl, b2, h⟩
        have H2 := Lib.hid h
        clear h H1
        obtain rfl := H2.out.none (.tail _ (.head _))
        obtain rfl := H2.out.none (.tail _ (.tail _ (.head _)))
        obtain rfl := H2.out.none (.head _)
        go_wp2_with fail
        refine (rvalid_calls A1 c1 k1 g1 _ I1.out.len I1.out.lim (I1.out.rd.below H2.out.b) false (Lib.hid v1)).mono ?_
        rintro e w' ⟨rfl, rfl⟩
        go_wp2_with fail
        refine (sanity_at H2 HT).mono ?_
        rintro e w3 ⟨rfl, H3⟩
        clear H2
        go_wp2_with fail
        refine (refused_calls B1 d1 1 1 _ true (Lib.hid (by simp))).mono ?_
        rintro e w' ⟨rfl, rfl⟩
        go_wp2_with fail
        refine (refused_calls B2 d2 1 1 _ true (Lib.hid (by simp))).mono ?_
        rintro e w' ⟨rfl, rfl⟩
        go_wp2_with fail
        go_ret
        exact ⟨rfl, H3.out.b⟩
  case pos =>
    by_cases q3 : k2 ≤ 60
    case neg =>
      go_enter Tryz.func4, Tryz.ntmps4
      go_wp2_with fail
      refine (light_calls A1 k1 c1 120 w true (Lib.hid (decide_eq_true q1))).mono ?_
      rintro e w' ⟨rfl, rfl⟩
      go_wp2_with fail
      refine (light_calls A2 k2 c2 60 w false (Lib.hid (decide_eq_false q3))).mono ?_
      rintro e w' ⟨rfl, rfl⟩
      go_wp2_with fail
      refine (sanity_at H0 HT).mono ?_
      rintro e w1 ⟨rfl, H1⟩
      clear H0
      go_wp2_with fail
      go_ret
      exact ⟨rfl, H1.out.b⟩
    cases v1 : validB g1
    case false =>
      have hv : (validB g1 && validB g2) = false := by rw [v1]; rfl
      go_enter Tryz.func4, Tryz.ntmps4
      go_wp2_with fail
      refine (light_calls A1 k1 c1 120 w true (Lib.hid (decide_eq_true q1))).mono ?_
      rintro e w' ⟨rfl, rfl⟩
      go_wp2_with fail
      refine (light_calls A2 k2 c2 60 w true (Lib.hid (decide_eq_true q3))).mono ?_
      rintro e w' ⟨rfl, rfl⟩
      go_wp2_with fail
      refine (Div_l H0.out A1 k1 c1 g1 A2 k2 c2 g2 (I1.out.below H0.out.b) (I2.out.below H0.out.b) 1 0 0 (Lib.hid (divL_bad hv))).mono ?_
      rintro e w1 ⟨B1, j1, d1, B1', j1', d1', rfl, b1, b1', h⟩
      have H1 := Lib.hid h
      clear h H0
      go_wp2_with fail
      refine (Gcd_l H1.out A1 k1 c1 g1 A2 k2 c2 g2 (I1.out.below H1.out.b) (I2.out.below H1.out.b) 1 (0) (Lib.hid (gcdL_bad hv))).mono ?_
      rintro e w2 ⟨B2, j2, d2, rfl, b2, h⟩
      have H2 := Lib.hid h
      clear h H1
      obtain rfl := H2.out.none (.tail _ (.head _))
      obtain rfl := H2.out.none (.tail _ (.tail _ (.head _)))
      obtain rfl := H2.out.none (.head _)
      go_wp2_with fail
      refine (rvalid_calls A1 c1 k1 g1 _ I1.out.len I1.out.lim (I1.out.rd.below H2.out.b) false (Lib.hid v1)).mono ?_
      rintro e w' ⟨rfl, rfl⟩
      go_wp2_with fail
      refine (sanity_at H2 HT).mono ?_
      rintro e w3 ⟨rfl, H3⟩
      clear H2
      go_wp2_with fail
      refine (refused_calls B1 d1 1 1 _ true (Lib.hid (by simp))).mono ?_
      rintro e w' ⟨rfl, rfl⟩
      go_wp2_with fail
      refine (refused_calls B2 d2 1 1 _ true (Lib.hid (by simp))).mono ?_
      rintro e w' ⟨rfl, rfl⟩
      go_wp2_with fail
      go_ret
      exact ⟨rfl, H3.out.b⟩
    cases v2 : validB g2
    case false =>
      have hv : (validB g1 && validB g2) = false := by rw [v1, v2]; rfl
      go_enter Tryz.func4, Tryz.ntmps4
      go_wp2_with fail
      refine (light_calls A1 k1 c1 120 w true (Lib.hid (decide_eq_true q1))).mono ?_
      rintro e w' ⟨rfl, rfl⟩
      go_wp2_with fail
      refine (light_calls A2 k2 c2 60 w true (Lib.hid (decide_eq_true q3))).mono ?_
      rintro e w' ⟨rfl, rfl⟩
      go_wp2_with fail
      refine (Div_l H0.out A1 k1 c1 g1 A2 k2 c2 g2 (I1.out.below H0.out.b) (I2.out.below H0.out.b) 1 0 0 (Lib.hid (divL_bad hv))).mono ?_
      rintro e w1 ⟨B1, j1, d1, B1', j1', d1', rfl, b1, b1', h⟩
      have H1 := Lib.hid h
      clear h H0
      go_wp2_with fail
      refine (Gcd_l H1.out A1 k1 c1 g1 A2 k2 c2 g2 (I1.out.below H1.out.b) (I2.out.below H1.out.b) 1 (0) (Lib.hid (gcdL_bad hv))).mono ?_
      rintro e w2 ⟨B2, j2, d2, rfl, b2, h⟩
      have H2 := Lib.hid h
      clear h H1
      obtain rfl := H2.out.none (.tail _ (.head _))
      obtain rfl := H2.out.none (.tail _ (.tail _ (.head _)))
      obtain rfl := H2.out.none (.head _)
      go_wp2_with fail
      refine (rvalid_calls A1 c1 k1 g1 _ I1.out.len I1.out.lim (I1.out.rd.below H2.out.b) true (Lib.hid v1)).mono ?_
      rintro e w' ⟨rfl, rfl⟩
      go_wp2_with fail
      refine (rvalid_calls A2 c2 k2 g2 _ I2.out.len I2.out.lim (I2.out.rd.below H2.out.b) false (Lib.hid v2)).mono ?_
      rintro e w' ⟨rfl, rfl⟩
      go_wp2_with fail
      refine (sanity_at H2 HT).mono ?_
      rintro e w3 ⟨rfl, H3⟩
      clear H2
      go_wp2_with fail
      refine (refused_calls B1 d1 1 1 _ true (Lib.hid (by simp))).mono ?_
      rintro e w' ⟨rfl, rfl⟩
      go_wp2_with fail
      refine (refused_calls B2 d2 1 1 _ true (Lib.hid (by simp))).mono ?_
      rintro e w' ⟨rfl, rfl⟩
      go_wp2_with fail
      go_ret
      exact ⟨rfl, H3.out.b⟩
    obtain ⟨a, rfl, e1, _⟩ := I1.out.num H0.out v1
    obtain ⟨b, rfl, e2, _⟩ := I2.out.num H0.out v2
    have HV1 := Lib.hid v1
    have HV2 := Lib.hid v2
    obtain ⟨x, n, hx⟩ : ∃ x n, Hid (giv (Nat.gcd a b) = (x, n)) := ⟨_, _, Lib.hid rfl⟩
    by_cases z : k2 = 0
    case pos =>
      have HB0 : Hid (b = 0) := Lib.hid ((dg_nil_iff b).1 (by rw [I2.out.len]; exact z))
      have z1 : ((k2 : Int) == 0) = true := by simp [z]
      clear z
      go_enter Tryz.func4, Tryz.ntmps4
      go_wp2_with fail
      refine (light_calls A1 k1 c1 120 w true (Lib.hid (decide_eq_true q1))).mono ?_
      rintro e w' ⟨rfl, rfl⟩
      go_wp2_with fail
      refine (light_calls A2 k2 c2 60 w true (Lib.hid (decide_eq_true q3))).mono ?_
      rintro e w' ⟨rfl, rfl⟩
      clear v1 v2
      have h := ((I2.out.below H0.out.b).has (((I1.out.below H0.out.b).has (H0.out))))
      have H1 := Lib.hid h
      clear h H0
      go_wp2_with fail
      refine (Div_x H1.out A1 k1 c1 (a) A2 k2 c2 (b) (.tail _ (.head _)) (.head _) e1 e2 8 (0) (0) (Lib.hid (if_pos HB0.out))).mono ?_
      rintro e w2 ⟨B2, j2, d2, B2', j2', d2', rfl, b2, b2', h⟩
      have H2 := Lib.hid h
      clear h H1
      obtain rfl := H2.out.none (.head _)
      obtain rfl := H2.out.none (.tail _ (.head _))
      go_wp2_with fail
      refine (Gcd_x H2.out A1 k1 c1 (a) A2 k2 c2 (b) (.tail _ (.tail _ (.tail _ (.head _)))) (.tail _ (.tail _ (.head _))) e1 e2 x n hx).mono ?_
      rintro e w3 ⟨B3, j3, d3, rfl, b3, h⟩
      have H3 := Lib.hid h
      clear h H2
      go_wp2_with fail
      refine (rvalid_calls A1 c1 k1 (dg a) _ I1.out.len I1.out.lim (I1.out.rd.below H3.out.b) true (HV1)).mono ?_
      rintro e w' ⟨rfl, rfl⟩
      go_wp2_with fail
      refine (rvalid_calls A2 c2 k2 (dg b) _ I2.out.len I2.out.lim (I2.out.rd.below H3.out.b) true (HV2)).mono ?_
      rintro e w' ⟨rfl, rfl⟩
      go_wp2_with fail
      refine (sanity_at H3 HT).mono ?_
      rintro e w4 ⟨rfl, H4⟩
      clear H3
      go_wp2_with fail
      refine (refused_calls B2 d2 8 8 _ true (Lib.hid (by simp))).mono ?_
      rintro e w' ⟨rfl, rfl⟩
      go_wp2_with fail
      refine (is_giv H4.out B3 j3 d3 (n) A1 k1 c1 (a) x (.head _) (.tail _ (.tail _ (.tail _ (.tail _ (.head _))))) b3 (Lib.hid (by have := hx.out; rw [HB0.out, Nat.gcd_zero_right] at this; exact this)) true rfl).mono ?_
      rintro e w5 ⟨rfl, h⟩
      have H5 := Lib.hid h
      clear h H4
      go_wp2_with fail
      go_ret
      exact ⟨rfl, H5.out.b⟩
    have hb0 : b ≠ 0 := fun h => z (by have := I2.out.len; rw [h, dg_zero] at this; exact this.symm)
    have HB0 := Lib.hid hb0
    have HKB := Lib.hid z
    have z1 : ((k2 : Int) == 0) = false := by simp; omega
    clear hb0
    by_cases t1 : 30 < k1
    case pos =>
      have t2 : True := trivial
      go_enter Tryz.func4, Tryz.ntmps4
      go_wp2_with fail
      refine (light_calls A1 k1 c1 120 w true (Lib.hid (decide_eq_true q1))).mono ?_
      rintro e w' ⟨rfl, rfl⟩
      go_wp2_with fail
      refine (light_calls A2 k2 c2 60 w true (Lib.hid (decide_eq_true q3))).mono ?_
      rintro e w' ⟨rfl, rfl⟩
      clear v1 v2
      have h := ((I2.out.below H0.out.b).has (((I1.out.below H0.out.b).has (H0.out))))
      have H1 := Lib.hid h
      clear h H0
      go_wp2_with fail
      refine (Div_x H1.out A1 k1 c1 (a) A2 k2 c2 (b) (.tail _ (.head _)) (.head _) e1 e2 0 (a / b) (a % b) (Lib.hid (if_neg HB0.out))).mono ?_
      rintro e w2 ⟨B2, j2, d2, B2', j2', d2', rfl, b2, b2', h⟩
      have H2 := Lib.hid h
      clear h H1
      go_wp2_with fail
      refine (Gcd_x H2.out A1 k1 c1 (a) A2 k2 c2 (b) (.tail _ (.tail _ (.tail _ (.head _)))) (.tail _ (.tail _ (.head _))) e1 e2 x n hx).mono ?_
      rintro e w3 ⟨B3, j3, d3, rfl, b3, h⟩
      have H3 := Lib.hid h
      clear h H2
      go_wp2_with fail
      refine (rvalid_calls A1 c1 k1 (dg a) _ I1.out.len I1.out.lim (I1.out.rd.below H3.out.b) true (HV1)).mono ?_
      rintro e w' ⟨rfl, rfl⟩
      go_wp2_with fail
      refine (rvalid_calls A2 c2 k2 (dg b) _ I2.out.len I2.out.lim (I2.out.rd.below H3.out.b) true (HV2)).mono ?_
      rintro e w' ⟨rfl, rfl⟩
      go_wp2_with fail
      refine (rdiv_h H3.out A1 k1 c1 (a) A2 k2 c2 (b) (.tail _ (.tail _ (.tail _ (.tail _ (.head _))))) (.tail _ (.tail _ (.tail _ (.head _)))) (by omega) (by omega) (Nat.pos_of_ne_zero HB0.out)).mono ?_
      rintro e w4 ⟨B4, j4, d4, B4', j4', d4', rfl, b4, b4', H4⟩
      clear H3
      obtain ⟨W, hW⟩ : ∃ W, w4.alloc (.cells #[.slice B4 j4 d4, .slice B4' j4' d4'] 40) = W := ⟨_, rfl⟩
      have HB1 : Hid (Below w.heap.size w W) := Lib.hid (by rw [← hW]; exact (H4.out.alloc _).b)
      have HBB : Hid (Has W W _) := Lib.hid (by rw [← hW]; exact (H4.out.alloc _).rebase)
      have HT2 : Hid (Tabs W) := Lib.hid (HT.out.below HB1.out)
      have HC0 : Hid (W.heap[w4.heap.size]? = some (.cells #[.slice B4 j4 d4, .slice B4' j4' d4'] 40 (0, 0)) ∧ w4.heap.size < W.heap.size) := Lib.hid (by rw [← hW]; exact ⟨World.alloc_heap_new _ _, by simp⟩)
      have HW := Lib.hid hW
      have HD := Lib.hid (World.alloc_heap_new w4 (.cells #[.slice none 0 0, .slice none 0 0] 40))
      clear H4
      go_wp2_with (refine wpList_store_row (o := { dst := none, op := .store 40 (.tmp 10) (.tmp 84), type := 0, pos := _, after := _, guard := none }) rfl 40 (.tmp 10) (.tmp 84) rfl w4.heap.size #[.slice B4 j4 d4, .slice B4' j4' d4'] rfl rfl 40 #[.slice none 0 0, .slice none 0 0] HD.out (by kernel_rfl) rfl (by simp [Value.oneCell']) ?_; rw [World.setRow_alloc_new, HW.out])
      refine (sanity_at HBB HT2).mono ?_
      rintro e w5 ⟨rfl, H5⟩
      clear HBB
      have c0 : w5.cell? ⟨w4.heap.size, 0, none⟩ = some (.slice B4 j4 d4) := by rw [Lib.cell_of_heap ((H5.out.b.block _ HC0.out.2).trans HC0.out.1)]; rfl
      have c1' : w5.cell? ⟨w4.heap.size, 1, none⟩ = some (.slice B4' j4' d4') := by rw [Lib.cell_of_heap ((H5.out.b.block _ HC0.out.2).trans HC0.out.1)]; rfl
      have HQ : Hid (giv (a / b) = (0, a / b)) := Lib.hid (giv_ok (Nat.le_trans (lenle (Nat.div_le_self _ _) (Nat.le_of_eq I1.out.len)) e1))
      go_wp2_with fail
      refine (is_giv H5.out B2 j2 d2 (a / b) B4 j4 d4 (a / b) 0 (.tail _ (.tail _ (.tail _ (.head _)))) (.head _) b2 (HQ) true rfl).mono ?_
      rintro e w6 ⟨rfl, h⟩
      have H6 := Lib.hid h
      clear h H5
      clear c0 c1'
      have c0 : w6.cell? ⟨w4.heap.size, 0, none⟩ = some (.slice B4 j4 d4) := by rw [Lib.cell_of_heap ((H6.out.b.block _ HC0.out.2).trans HC0.out.1)]; rfl
      have c1' : w6.cell? ⟨w4.heap.size, 1, none⟩ = some (.slice B4' j4' d4') := by rw [Lib.cell_of_heap ((H6.out.b.block _ HC0.out.2).trans HC0.out.1)]; rfl
      go_wp2_with fail
      refine (rsame_h H6.out B2' j2' d2' (a % b) B4' j4' d4' (a % b) (.tail _ (.tail _ (.tail _ (.tail _ (.head _))))) (.tail _ (.head _)) (Nat.le_trans b2' (by decide)) (Nat.le_trans b4' (by decide)) true (Lib.hid (decide_eq_true rfl))).mono ?_
      rintro e w7 ⟨rfl, h⟩
      have H7 := Lib.hid h
      clear h H6
      clear c0 c1'
      go_wp2_with fail
      go_ret
      exact ⟨rfl, HB1.out.trans (H7.out.b.mono HB1.out.size)⟩
    by_cases t2 : 30 < k2
    case pos =>
      have t3 : True := trivial
      go_enter Tryz.func4, Tryz.ntmps4
      go_wp2_with fail
      refine (light_calls A1 k1 c1 120 w true (Lib.hid (decide_eq_true q1))).mono ?_
      rintro e w' ⟨rfl, rfl⟩
      go_wp2_with fail
      refine (light_calls A2 k2 c2 60 w true (Lib.hid (decide_eq_true q3))).mono ?_
      rintro e w' ⟨rfl, rfl⟩
      clear v1 v2
      have h := ((I2.out.below H0.out.b).has (((I1.out.below H0.out.b).has (H0.out))))
      have H1 := Lib.hid h
      clear h H0
      go_wp2_with fail
      refine (Div_x H1.out A1 k1 c1 (a) A2 k2 c2 (b) (.tail _ (.head _)) (.head _) e1 e2 0 (a / b) (a % b) (Lib.hid (if_neg HB0.out))).mono ?_
      rintro e w2 ⟨B2, j2, d2, B2', j2', d2', rfl, b2, b2', h⟩
      have H2 := Lib.hid h
      clear h H1
      go_wp2_with fail
      refine (Gcd_x H2.out A1 k1 c1 (a) A2 k2 c2 (b) (.tail _ (.tail _ (.tail _ (.head _)))) (.tail _ (.tail _ (.head _))) e1 e2 x n hx).mono ?_
      rintro e w3 ⟨B3, j3, d3, rfl, b3, h⟩
      have H3 := Lib.hid h
      clear h H2
      go_wp2_with fail
      refine (rvalid_calls A1 c1 k1 (dg a) _ I1.out.len I1.out.lim (I1.out.rd.below H3.out.b) true (HV1)).mono ?_
      rintro e w' ⟨rfl, rfl⟩
      go_wp2_with fail
      refine (rvalid_calls A2 c2 k2 (dg b) _ I2.out.len I2.out.lim (I2.out.rd.below H3.out.b) true (HV2)).mono ?_
      rintro e w' ⟨rfl, rfl⟩
      go_wp2_with fail
      refine (rdiv_h H3.out A1 k1 c1 (a) A2 k2 c2 (b) (.tail _ (.tail _ (.tail _ (.tail _ (.head _))))) (.tail _ (.tail _ (.tail _ (.head _)))) (by omega) (by omega) (Nat.pos_of_ne_zero HB0.out)).mono ?_
      rintro e w4 ⟨B4, j4, d4, B4', j4', d4', rfl, b4, b4', H4⟩
      clear H3
      obtain ⟨W, hW⟩ : ∃ W, w4.alloc (.cells #[.slice B4 j4 d4, .slice B4' j4' d4'] 40) = W := ⟨_, rfl⟩
      have HB1 : Hid (Below w.heap.size w W) := Lib.hid (by rw [← hW]; exact (H4.out.alloc _).b)
      have HBB : Hid (Has W W _) := Lib.hid (by rw [← hW]; exact (H4.out.alloc _).rebase)
      have HT2 : Hid (Tabs W) := Lib.hid (HT.out.below HB1.out)
      have HC0 : Hid (W.heap[w4.heap.size]? = some (.cells #[.slice B4 j4 d4, .slice B4' j4' d4'] 40 (0, 0)) ∧ w4.heap.size < W.heap.size) := Lib.hid (by rw [← hW]; exact ⟨World.alloc_heap_new _ _, by simp⟩)
      have HW := Lib.hid hW
      have HD := Lib.hid (World.alloc_heap_new w4 (.cells #[.slice none 0 0, .slice none 0 0] 40))
      clear H4
      go_wp2_with (refine wpList_store_row (o := { dst := none, op := .store 40 (.tmp 10) (.tmp 84), type := 0, pos := _, after := _, guard := none }) rfl 40 (.tmp 10) (.tmp 84) rfl w4.heap.size #[.slice B4 j4 d4, .slice B4' j4' d4'] rfl rfl 40 #[.slice none 0 0, .slice none 0 0] HD.out (by kernel_rfl) rfl (by simp [Value.oneCell']) ?_; rw [World.setRow_alloc_new, HW.out])
      refine (sanity_at HBB HT2).mono ?_
      rintro e w5 ⟨rfl, H5⟩
      clear HBB
      have c0 : w5.cell? ⟨w4.heap.size, 0, none⟩ = some (.slice B4 j4 d4) := by rw [Lib.cell_of_heap ((H5.out.b.block _ HC0.out.2).trans HC0.out.1)]; rfl
      have c1' : w5.cell? ⟨w4.heap.size, 1, none⟩ = some (.slice B4' j4' d4') := by rw [Lib.cell_of_heap ((H5.out.b.block _ HC0.out.2).trans HC0.out.1)]; rfl
      have HQ : Hid (giv (a / b) = (0, a / b)) := Lib.hid (giv_ok (Nat.le_trans (lenle (Nat.div_le_self _ _) (Nat.le_of_eq I1.out.len)) e1))
      go_wp2_with fail
      refine (is_giv H5.out B2 j2 d2 (a / b) B4 j4 d4 (a / b) 0 (.tail _ (.tail _ (.tail _ (.head _)))) (.head _) b2 (HQ) true rfl).mono ?_
      rintro e w6 ⟨rfl, h⟩
      have H6 := Lib.hid h
      clear h H5
      clear c0 c1'
      have c0 : w6.cell? ⟨w4.heap.size, 0, none⟩ = some (.slice B4 j4 d4) := by rw [Lib.cell_of_heap ((H6.out.b.block _ HC0.out.2).trans HC0.out.1)]; rfl
      have c1' : w6.cell? ⟨w4.heap.size, 1, none⟩ = some (.slice B4' j4' d4') := by rw [Lib.cell_of_heap ((H6.out.b.block _ HC0.out.2).trans HC0.out.1)]; rfl
      go_wp2_with fail
      refine (rsame_h H6.out B2' j2' d2' (a % b) B4' j4' d4' (a % b) (.tail _ (.tail _ (.tail _ (.tail _ (.head _))))) (.tail _ (.head _)) (Nat.le_trans b2' (by decide)) (Nat.le_trans b4' (by decide)) true (Lib.hid (decide_eq_true rfl))).mono ?_
      rintro e w7 ⟨rfl, h⟩
      have H7 := Lib.hid h
      clear h H6
      clear c0 c1'
      go_wp2_with fail
      go_ret
      exact ⟨rfl, HB1.out.trans (H7.out.b.mono HB1.out.size)⟩
    have t3 : True := trivial
    go_enter Tryz.func4, Tryz.ntmps4
    go_wp2_with fail
    refine (light_calls A1 k1 c1 120 w true (Lib.hid (decide_eq_true q1))).mono ?_
    rintro e w' ⟨rfl, rfl⟩
    go_wp2_with fail
    refine (light_calls A2 k2 c2 60 w true (Lib.hid (decide_eq_true q3))).mono ?_
    rintro e w' ⟨rfl, rfl⟩
    clear v1 v2
    have h := ((I2.out.below H0.out.b).has (((I1.out.below H0.out.b).has (H0.out))))
    have H1 := Lib.hid h
    clear h H0
    go_wp2_with fail
    refine (Div_x H1.out A1 k1 c1 (a) A2 k2 c2 (b) (.tail _ (.head _)) (.head _) e1 e2 0 (a / b) (a % b) (Lib.hid (if_neg HB0.out))).mono ?_
    rintro e w2 ⟨B2, j2, d2, B2', j2', d2', rfl, b2, b2', h⟩
    have H2 := Lib.hid h
    clear h H1
    go_wp2_with fail
    refine (Gcd_x H2.out A1 k1 c1 (a) A2 k2 c2 (b) (.tail _ (.tail _ (.tail _ (.head _)))) (.tail _ (.tail _ (.head _))) e1 e2 x n hx).mono ?_
    rintro e w3 ⟨B3, j3, d3, rfl, b3, h⟩
    have H3 := Lib.hid h
    clear h H2
    go_wp2_with fail
    refine (rvalid_calls A1 c1 k1 (dg a) _ I1.out.len I1.out.lim (I1.out.rd.below H3.out.b) true (HV1)).mono ?_
    rintro e w' ⟨rfl, rfl⟩
    go_wp2_with fail
    refine (rvalid_calls A2 c2 k2 (dg b) _ I2.out.len I2.out.lim (I2.out.rd.below H3.out.b) true (HV2)).mono ?_
    rintro e w' ⟨rfl, rfl⟩
    go_wp2_with fail
    refine (rdiv_h H3.out A1 k1 c1 (a) A2 k2 c2 (b) (.tail _ (.tail _ (.tail _ (.tail _ (.head _))))) (.tail _ (.tail _ (.tail _ (.head _)))) (by omega) (by omega) (Nat.pos_of_ne_zero HB0.out)).mono ?_
    rintro e w4 ⟨B4, j4, d4, B4', j4', d4', rfl, b4, b4', H4⟩
    clear H3
    obtain ⟨W, hW⟩ : ∃ W, w4.alloc (.cells #[.slice B4 j4 d4, .slice B4' j4' d4'] 40) = W := ⟨_, rfl⟩
    have HB1 : Hid (Below w.heap.size w W) := Lib.hid (by rw [← hW]; exact (H4.out.alloc _).b)
    have HBB : Hid (Has W W _) := Lib.hid (by rw [← hW]; exact (H4.out.alloc _).rebase)
    have HT2 : Hid (Tabs W) := Lib.hid (HT.out.below HB1.out)
    have HC0 : Hid (W.heap[w4.heap.size]? = some (.cells #[.slice B4 j4 d4, .slice B4' j4' d4'] 40 (0, 0)) ∧ w4.heap.size < W.heap.size) := Lib.hid (by rw [← hW]; exact ⟨World.alloc_heap_new _ _, by simp⟩)
    have HW := Lib.hid hW
    have HD := Lib.hid (World.alloc_heap_new w4 (.cells #[.slice none 0 0, .slice none 0 0] 40))
    clear H4
    go_wp2_with (refine wpList_store_row (o := { dst := none, op := .store 40 (.tmp 10) (.tmp 84), type := 0, pos := _, after := _, guard := none }) rfl 40 (.tmp 10) (.tmp 84) rfl w4.heap.size #[.slice B4 j4 d4, .slice B4' j4' d4'] rfl rfl 40 #[.slice none 0 0, .slice none 0 0] HD.out (by kernel_rfl) rfl (by simp [Value.oneCell']) ?_; rw [World.setRow_alloc_new, HW.out])
    refine (sanity_at HBB HT2).mono ?_
    rintro e w5 ⟨rfl, H5⟩
    clear HBB
    have c0 : w5.cell? ⟨w4.heap.size, 0, none⟩ = some (.slice B4 j4 d4) := by rw [Lib.cell_of_heap ((H5.out.b.block _ HC0.out.2).trans HC0.out.1)]; rfl
    have c1' : w5.cell? ⟨w4.heap.size, 1, none⟩ = some (.slice B4' j4' d4') := by rw [Lib.cell_of_heap ((H5.out.b.block _ HC0.out.2).trans HC0.out.1)]; rfl
    have HQ : Hid (giv (a / b) = (0, a / b)) := Lib.hid (giv_ok (Nat.le_trans (lenle (Nat.div_le_self _ _) (Nat.le_of_eq I1.out.len)) e1))
    go_wp2_with fail
    refine (is_giv H5.out B2 j2 d2 (a / b) B4 j4 d4 (a / b) 0 (.tail _ (.tail _ (.tail _ (.head _)))) (.head _) b2 (HQ) true rfl).mono ?_
    rintro e w6 ⟨rfl, h⟩
    have H6 := Lib.hid h
    clear h H5
    clear c0 c1'
    have c0 : w6.cell? ⟨w4.heap.size, 0, none⟩ = some (.slice B4 j4 d4) := by rw [Lib.cell_of_heap ((H6.out.b.block _ HC0.out.2).trans HC0.out.1)]; rfl
    have c1' : w6.cell? ⟨w4.heap.size, 1, none⟩ = some (.slice B4' j4' d4') := by rw [Lib.cell_of_heap ((H6.out.b.block _ HC0.out.2).trans HC0.out.1)]; rfl
    go_wp2_with fail
    refine (rsame_h H6.out B2' j2' d2' (a % b) B4' j4' d4' (a % b) (.tail _ (.tail _ (.tail _ (.tail _ (.head _))))) (.tail _ (.head _)) (Nat.le_trans b2' (by decide)) (Nat.le_trans b4' (by decide)) true (Lib.hid (decide_eq_true rfl))).mono ?_
    rintro e w7 ⟨rfl, h⟩
    have H7 := Lib.hid h
    clear h H6
    clear c0 c1'
    go_wp2_with fail
    refine (rgcd_h H7.out A1 k1 c1 (a) A2 k2 c2 (b) (.tail _ (.tail _ (.tail _ (.tail _ (.tail _ (.tail _ (.head _))))))) (.tail _ (.tail _ (.tail _ (.tail _ (.tail _ (.head _)))))) (by omega) (by omega)).mono ?_
    rintro e w8 ⟨B8, j8, d8, n8, rfl, hn8, b8, h⟩
    rw [hn8.out] at h
    clear hn8
    have H8 := Lib.hid h
    clear h H7
    go_wp2_with fail
    refine (is_giv H8.out B3 j3 d3 (n) B8 j8 d8 (Nat.gcd a b) x (.tail _ (.tail _ (.tail _ (.head _)))) (.head _) b3 (hx) true rfl).mono ?_
    rintro e w9 ⟨rfl, h⟩
    have H9 := Lib.hid h
    clear h H8
    go_wp2_with fail
    go_ret
    exact ⟨rfl, HB1.out.trans (H9.out.b.mono HB1.out.size)⟩
end Go.Proofs.YtfcfejlffmddnaaGreatDoor
end
