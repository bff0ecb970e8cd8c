/- Package nat, its reference and its laws' helpers, part 2 (NSA NH NI NJ NK NL NM). -/
import Derived.Shelf.Small.Bits
import Derived.Test.YtfcfejlffmddnaaGreatDoorProg
import Derived.Lib.ItoaNum
import Derived.WalkKit
import Derived.Lib.Walk
import Derived.Lib.SliceRun
import Derived.RangeFuncNested
import Derived.RangeFuncBound
import Derived.RangeFuncCalls
import Derived.RangeFuncLeaves
import Derived.Shelf.Abstract
import Derived.Shelf.RegionOpen
import Derived.OwnWalkIn
import Derived.TacticsInMore
import Derived.LoopNIn
import Derived.LoopIn
import Derived.Test.YtfcfejlffmddnaaGreatDoorM01
section
/- Contracts of math/bits that the kit's shelf proves, at this program. -/
namespace Go.Proofs
open Go.Shelf
def Tryz.lays128_ren : Go.Shelf.Ren := ⟨fun | 128 => 111 | n => n, fun | 51 => 57 | 3 => 3 | 4 => 4 | 46 => 90 | 5 => 5 | 9 => 9 | n => n, fun | n => n⟩
theorem Tryz.lays128 : Go.Proofs.Lays.n128 Tryz.prog Tryz.lays128_ren := {
  mixed := by kernel_rfl
  f128 := Tryz.func111.trans (congrArg some (by kernel_rfl))
  t3 := Tryz.underlying3
  a3 := Tryz.isAgg3
  z3 := Tryz.sizeOf3
  v3 := Tryz.zeroValue3
  t4 := Tryz.underlying4
  a4 := Tryz.isAgg4
  z4 := Tryz.sizeOf4
  v4 := Tryz.zeroValue4
  t5 := Tryz.underlying5
  a5 := Tryz.isAgg5
  z5 := Tryz.sizeOf5
  v5 := Tryz.zeroValue5
  t9 := Tryz.underlying9
  a9 := Tryz.isAgg9
  z9 := Tryz.sizeOf9
  v9 := Tryz.zeroValue9
  t46 := Tryz.underlying90
  a46 := Tryz.isAgg90
  z46 := Tryz.sizeOf90
  v46 := Tryz.zeroValue90
  t51 := Tryz.underlying57
  a51 := Tryz.isAgg57
  z51 := Tryz.sizeOf57
  v51 := Tryz.zeroValue57 }
theorem Tryz.bits_Len32 (x : Int) (w : World) (h0 : 0 ≤ x) (h1 : x ≤ 4294967295) :
    Calls Tryz.prog 111 #[.int .u32 x] w fun e w' => e = .returned (.int .i64 (Lib.bitLen x.toNat)) ∧ w' = w := Any.bits_Len32 Tryz.lays128 x w h0 h1
def Tryz.lays125_ren : Go.Shelf.Ren := ⟨fun | 125 => 112 | 128 => 111 | 129 => 134 | n => n, fun | 46 => 90 | 3 => 3 | 51 => 57 | 53 => 59 | 4 => 4 | 5 => 5 | 9 => 9 | n => n, fun | n => n⟩
theorem Tryz.lays125 : Go.Proofs.Lays.n125 Tryz.prog Tryz.lays125_ren := {
  mixed := by kernel_rfl
  f125 := Tryz.func112.trans (congrArg some (by kernel_rfl))
  f128 := Tryz.func111.trans (congrArg some (by kernel_rfl))
  f129 := Tryz.func134.trans (congrArg some (by kernel_rfl))
  t3 := Tryz.underlying3
  a3 := Tryz.isAgg3
  z3 := Tryz.sizeOf3
  v3 := Tryz.zeroValue3
  t4 := Tryz.underlying4
  a4 := Tryz.isAgg4
  z4 := Tryz.sizeOf4
  v4 := Tryz.zeroValue4
  t5 := Tryz.underlying5
  a5 := Tryz.isAgg5
  z5 := Tryz.sizeOf5
  v5 := Tryz.zeroValue5
  t9 := Tryz.underlying9
  a9 := Tryz.isAgg9
  z9 := Tryz.sizeOf9
  v9 := Tryz.zeroValue9
  t46 := Tryz.underlying90
  a46 := Tryz.isAgg90
  z46 := Tryz.sizeOf90
  v46 := Tryz.zeroValue90
  t51 := Tryz.underlying57
  a51 := Tryz.isAgg57
  z51 := Tryz.sizeOf57
  v51 := Tryz.zeroValue57
  t53 := Tryz.underlying59
  a53 := Tryz.isAgg59
  z53 := Tryz.sizeOf59
  v53 := Tryz.zeroValue59 }
theorem Tryz.bits_Len (x : Int) (w : World) (h0 : 0 ≤ x) (h1 : x ≤ 18446744073709551615) :
    Calls Tryz.prog 112 #[.int .u64 x] w fun e w' => e = .returned (.int .i64 (Lib.bitLen x.toNat)) ∧ w' = w := Any.bits_Len Tryz.lays125 x w h0 h1
def Tryz.lays133_ren : Go.Shelf.Ren := ⟨fun | 133 => 117 | 128 => 111 | n => n, fun | 51 => 57 | 3 => 3 | 4 => 4 | 46 => 90 | 5 => 5 | 9 => 9 | n => n, fun | n => n⟩
theorem Tryz.lays133 : Go.Proofs.Lays.n133 Tryz.prog Tryz.lays133_ren := {
  mixed := by kernel_rfl
  f128 := Tryz.func111.trans (congrArg some (by kernel_rfl))
  f133 := Tryz.func117.trans (congrArg some (by kernel_rfl))
  t3 := Tryz.underlying3
  a3 := Tryz.isAgg3
  z3 := Tryz.sizeOf3
  v3 := Tryz.zeroValue3
  t4 := Tryz.underlying4
  a4 := Tryz.isAgg4
  z4 := Tryz.sizeOf4
  v4 := Tryz.zeroValue4
  t5 := Tryz.underlying5
  a5 := Tryz.isAgg5
  z5 := Tryz.sizeOf5
  v5 := Tryz.zeroValue5
  t9 := Tryz.underlying9
  a9 := Tryz.isAgg9
  z9 := Tryz.sizeOf9
  v9 := Tryz.zeroValue9
  t46 := Tryz.underlying90
  a46 := Tryz.isAgg90
  z46 := Tryz.sizeOf90
  v46 := Tryz.zeroValue90
  t51 := Tryz.underlying57
  a51 := Tryz.isAgg57
  z51 := Tryz.sizeOf57
  v51 := Tryz.zeroValue57 }
theorem Tryz.bits_LeadingZeros32 (x : Int) (w : World) (h0 : 0 ≤ x) (h1 : x ≤ 4294967295) :
    Calls Tryz.prog 117 #[.int .u32 x] w fun e w' => e = .returned (.int .i64 (32 - (Lib.bitLen x.toNat : Int))) ∧ w' = w := Any.bits_LeadingZeros32 Tryz.lays133 x w h0 h1
def Tryz.lays137_ren : Go.Shelf.Ren := ⟨fun | 137 => 168 | 217 => 177 | 266 => 181 | n => n, fun | 9 => 9 | 5 => 5 | 3 => 3 | n => n, fun | n => n⟩
theorem Tryz.lays137 : Go.Proofs.Lays.n137 Tryz.prog Tryz.lays137_ren := {
  mixed := by kernel_rfl
  f137 := Tryz.func168.trans (congrArg some (by kernel_rfl))
  f217 := Tryz.func177.trans (congrArg some (by kernel_rfl))
  f266 := Tryz.func181.trans (congrArg some (by kernel_rfl))
  t3 := Tryz.underlying3
  a3 := Tryz.isAgg3
  z3 := Tryz.sizeOf3
  v3 := Tryz.zeroValue3
  t5 := Tryz.underlying5
  a5 := Tryz.isAgg5
  z5 := Tryz.sizeOf5
  v5 := Tryz.zeroValue5
  t9 := Tryz.underlying9
  a9 := Tryz.isAgg9
  z9 := Tryz.sizeOf9
  v9 := Tryz.zeroValue9 }
def Tryz.lays129_ren : Go.Shelf.Ren := ⟨fun | 129 => 134 | n => n, fun | 53 => 59 | 3 => 3 | 4 => 4 | 46 => 90 | 5 => 5 | 9 => 9 | n => n, fun | n => n⟩
theorem Tryz.lays129 : Go.Proofs.Lays.n129 Tryz.prog Tryz.lays129_ren := {
  mixed := by kernel_rfl
  f129 := Tryz.func134.trans (congrArg some (by kernel_rfl))
  t3 := Tryz.underlying3
  a3 := Tryz.isAgg3
  z3 := Tryz.sizeOf3
  v3 := Tryz.zeroValue3
  t4 := Tryz.underlying4
  a4 := Tryz.isAgg4
  z4 := Tryz.sizeOf4
  v4 := Tryz.zeroValue4
  t5 := Tryz.underlying5
  a5 := Tryz.isAgg5
  z5 := Tryz.sizeOf5
  v5 := Tryz.zeroValue5
  t9 := Tryz.underlying9
  a9 := Tryz.isAgg9
  z9 := Tryz.sizeOf9
  v9 := Tryz.zeroValue9
  t46 := Tryz.underlying90
  a46 := Tryz.isAgg90
  z46 := Tryz.sizeOf90
  v46 := Tryz.zeroValue90
  t53 := Tryz.underlying59
  a53 := Tryz.isAgg59
  z53 := Tryz.sizeOf59
  v53 := Tryz.zeroValue59 }
theorem Tryz.bits_Len64 (x : Int) (w : World) (h0 : 0 ≤ x) (h1 : x ≤ 18446744073709551615) :
    Calls Tryz.prog 134 #[.int .u64 x] w fun e w' => e = .returned (.int .i64 (Lib.bitLen x.toNat)) ∧ w' = w := Any.bits_Len64 Tryz.lays129 x w h0 h1
end Go.Proofs
end
section
/- Contracts: how many binary digits a number has. -/
namespace Go.Proofs.YtfcfejlffmddnaaGreatDoor
open Go.RowKit
set_option linter.unusedSimpArgs false
set_option linter.unusedVariables false

/-- How many binary digits a number has. -/
def bl (n : Nat) : Nat := if n = 0 then 0 else n.log2 + 1
theorem bl_zero : bl 0 = 0 := rfl
theorem bl_spec {n : Nat} (h : n ≠ 0) : 1 ≤ bl n ∧ 2 ^ (bl n - 1) ≤ n ∧ n < 2 ^ bl n := by
  unfold bl; rw [if_neg h]
  exact ⟨by omega, by rw [Nat.add_sub_cancel]; exact Nat.log2_self_le h, Nat.lt_log2_self⟩
theorem bl_lt (n : Nat) : n < 2 ^ bl n := by
  by_cases h : n = 0
  · subst h; decide
  · exact (bl_spec h).2.2
theorem pow2_lt {a b : Nat} (h : 2 ^ a < 2 ^ b) : a < b := (Nat.pow_lt_pow_iff_right (by decide)).1 h
theorem bl_unique {n k : Nat} (h1 : 2 ^ k ≤ n) (h2 : n < 2 ^ (k + 1)) : bl n = k + 1 := by
  have h0 : n ≠ 0 := by have := Nat.two_pow_pos k; omega
  obtain ⟨a, b, c⟩ := bl_spec h0
  have e1 : bl n - 1 < k + 1 := pow2_lt (Nat.lt_of_le_of_lt b h2)
  have e2 : k < bl n := pow2_lt (Nat.lt_of_le_of_lt h1 c)
  omega
theorem bl_le {n k : Nat} : bl n ≤ k ↔ n < 2 ^ k := by
  constructor
  · intro h; exact Nat.lt_of_lt_of_le (bl_lt n) (Nat.pow_le_pow_right (by decide) h)
  · intro h
    by_cases h0 : n = 0
    · subst h0; rw [bl_zero]; omega
    · obtain ⟨a, b, c⟩ := bl_spec h0
      have := pow2_lt (Nat.lt_of_le_of_lt b h)
      omega
theorem bitLen_bl (x : Nat) (h : x < 4294967296) : Lib.bitLen x = bl x := by
  by_cases h0 : x = 0
  · subst h0; rfl
  · obtain ⟨a, b, c⟩ := Lib.bitLenAux_bounds 64 x (by omega) h0
    have e : Lib.bitLen x = Lib.bitLenAux 64 x := rfl
    rw [e]
    have := bl_unique b (by rw [Nat.sub_add_cancel a]; exact c)
    omega
/-- The highest digit. -/
theorem top_at (n : Nat) (h : n ≠ 0) : ∃ (m : Nat) (t : Nat), (dg n).length = m + 1 ∧ (dg n)[m]? = some (t : Int) ∧ 0 < t ∧ t < 4294967296 ∧ bl n = 32 * m + bl t := by
  obtain ⟨m, hm⟩ : ∃ m, (dg n).length = m + 1 := ⟨(dg n).length - 1, by have := dg_nil_iff n; omega⟩
  obtain ⟨x, hx⟩ : ∃ x, (dg n)[m]? = some x := ⟨_, List.getElem?_eq_getElem (by omega)⟩
  obtain ⟨x0, x1⟩ := dgs_at (dgs_dg n) hx
  have hne : x ≠ 0 := by
    intro h0; subst h0
    have := last_dg n
    rw [List.getLast?_eq_getElem?, hm, Nat.add_sub_cancel] at this
    exact this hx
  obtain ⟨t, rfl⟩ := Int.eq_ofNat_of_zero_le x0
  refine ⟨m, t, hm, hx, by omega, by omega, ?_⟩
  have h1 := vl_take_drop (dg n) m
  rw [vl_drop_at _ _ _ hx, List.drop_of_length_le (by omega), vl_nil, vl_dg, Int.mul_zero, Int.add_zero] at h1
  have h2 := vl_lt (dgs_take (dgs_dg n) m)
  have h3 := vl_nonneg (dgs_take (dgs_dg n) m)
  rw [List.length_take, Nat.min_eq_left (by omega)] at h2
  obtain ⟨lo, hlo⟩ := Int.eq_ofNat_of_zero_le h3
  rw [hlo] at h1 h2
  rw [BB_nat] at h1 h2
  have e1 : n = lo + 4294967296 ^ m * t := by exact_mod_cast h1
  have e2 : lo < 4294967296 ^ m := by exact_mod_cast h2
  have e3 : (4294967296 : Nat) ^ m = 2 ^ (32 * m) := by rw [Nat.pow_mul]
  rw [e3] at e1 e2
  obtain ⟨a, b, c⟩ := bl_spec (n := t) (by omega)
  have l1 : 2 ^ (32 * m + (bl t - 1)) ≤ n := by
    rw [Nat.pow_add, e1]
    exact Nat.le_trans (Nat.mul_le_mul_left _ b) (Nat.le_add_left _ _)
  have l2 : n < 2 ^ (32 * m + (bl t - 1) + 1) := by
    have : 32 * m + (bl t - 1) + 1 = 32 * m + bl t := by omega
    rw [this, Nat.pow_add, e1]
    have h5 : 2 ^ (32 * m) * (t + 1) ≤ 2 ^ (32 * m) * 2 ^ bl t := Nat.mul_le_mul_left _ c
    rw [Nat.mul_add, Nat.mul_one] at h5
    omega
  have := bl_unique l1 l2
  omega
theorem bl_len (n : Nat) : bl n ≤ 32 * (dg n).length := by
  rw [bl_le, Nat.pow_mul]
  have := (dg_len_le n _).1 (Nat.le_refl _)
  rw [BB_nat] at this
  exact_mod_cast this

set_option maxHeartbeats 400000 in
theorem size_calls (A : Option Addr) (c n : Nat) (w : World) (hl : (dg n).length ≤ 1099511627776) (hR : Rd .u32 w A (dg n)) :
    Calls Tryz.prog 71 #[.slice A (dg n).length c] w fun e w' => e = .returned (.int .i64 (bl n)) ∧ w = w' := by
  by_cases h0 : n = 0
  · subst h0
    rw [dg_zero, bl_zero]
    clear hR hl
    go_enter Tryz.func71, Tryz.ntmps71
    go_wp2
    go_ret
    exact ⟨rfl, rfl⟩
  · obtain ⟨m, t, hm, hx, t0, t1, hb⟩ := top_at n h0
    obtain ⟨b, o, rfl, hcc⟩ := hR (by intro h; rw [h] at hm; simp at hm)
    have hcell := hcc m _ hx
    obtain ⟨k, hk⟩ : ∃ k, bl t = k := ⟨_, rfl⟩
    have hk32 : k ≤ 32 := by rw [← hk, bl_le]; omega
    have hlen : Lib.bitLen t = k := by rw [bitLen_bl t t1, hk]
    rw [hb, hk, hm]
    rw [hm] at hl
    have HK := Lib.hid hlen
    have hz : ((m : Int) + 1 == 0) = false := beq_eq_false_iff_ne.2 (by omega)
    clear hcc hx hk hb hm hlen h0
    go_enter Tryz.func71, Tryz.ntmps71
    go_wp2_with fail
    refine (Go.Proofs.Tryz.bits_Len32 _ _ (by omega) (by omega)).mono ?_
    rintro e w' ⟨rfl, rfl⟩
    rw [Int.toNat_natCast, HK.out]
    go_wp2_with fail
    go_ret
    exact ⟨by simp, rfl⟩
end Go.Proofs.YtfcfejlffmddnaaGreatDoor
end
section
/- Contracts: shl. -/
namespace Go.Proofs.YtfcfejlffmddnaaGreatDoor
open Go.RowKit
set_option linter.unusedSimpArgs false
set_option linter.unusedVariables false

set_option maxRecDepth 10000 in
set_option maxHeartbeats 1000000 in
theorem shl_calls (A : Option Addr) (c x : Nat) (sh : Int) (w : World) (hx : (dg x).length ≤ 1099511627776) (h0 : 0 ≤ sh) (hs : sh ≤ 1099511627776) (hR : Rd .u32 w A (dg x)) :
    Calls Tryz.prog 100 #[.slice A (dg x).length c, .int .i64 sh] w fun e w' => ∃ v, e = .returned v ∧ Num w' v (x * 2 ^ sh.toNat) ∧ Below w.heap.size w w' := by
  obtain ⟨k, hk⟩ : ∃ k, (dg x).length = k := ⟨_, rfl⟩
  rw [hk] at hx ⊢
  by_cases hk0 : k = 0
  · obtain rfl : x = 0 := (dg_nil_iff x).1 (hk.trans hk0)
    subst hk0
    have hw : Num w (.slice none 0 0) (0 * 2 ^ sh.toNat) := by rw [Nat.zero_mul]; exact ⟨none, 0, by rw [dg_zero]; rfl, by rw [dg_zero]; exact Rd.nil, by rw [dg_zero]; simp, by omega⟩
    have HW := Lib.hid hw
    clear hw hk hR
    go_enter Tryz.func100, Tryz.ntmps100
    go_wp2
    go_ret
    exact ⟨_, rfl, HW.out, Below.refl _ _⟩
  · obtain ⟨q, hq⟩ : ∃ q : Nat, sh / 32 = q := ⟨(sh / 32).toNat, by omega⟩
    obtain ⟨r, hr⟩ : ∃ r : Nat, sh % 32 = r := ⟨(sh % 32).toNat, by omega⟩
    have hr32 : r < 32 := by omega
    have hq2 : q ≤ 1099511627776 := by omega
    have hsh : sh.toNat = 32 * q + r := by omega
    rw [hsh]
    obtain ⟨b, o, rfl, hcc⟩ := hR (by intro h; rw [h] at hk; exact hk0 hk.symm)
    have m1 := run_make_row' (P := Tryz.prog) 78 57 (.int .u32 0) 4 Tryz.underlying78 info57 rfl .i64 .i64 (q + k + 1) (by omega) (by omega)
    rw [Int.natCast_add, Int.natCast_add, Int.natCast_one] at m1
    have hkb : (k == 0) = false := beq_eq_false_iff_ne.2 hk0
    have hk1 : 1 ≤ k := by omega
    have HK := Lib.hid hk
    have HR := Lib.hid hR
    have HC := Lib.hid hcc
    clear hk hR hcc hsh hk0
    go_enter Tryz.func100, Tryz.ntmps100
    go_upto_region 3 with fail
    go_cut [5] (fun v wc => v = .slice (some ⟨w.heap.size, 0, none⟩) (q + k + 1) (q + k + 1) ∧ Hid (Wr wc w.heap.size 0 (List.replicate (q + k + 1) 0)) ∧ Hid (Below w.heap.size w wc))
    case first =>
      go_wp2_with fail
      go_meet
      case rel => exact ⟨rfl, Lib.hid (Wr.made _ _ _), Lib.hid ((Below.refl _ _).alloc (Nat.le_refl _) _)⟩
    case rest =>
      obtain ⟨rfl, HW, HB⟩ := hcut
      clear m1
      go_wp2_with fail
      go_loopw [6, 21] (fun v6 v21 wr => ∃ (i : Nat) (res : List Int) (cy : Int), i ≤ k ∧ v21 = .int .i64 i ∧ v6 = .int .u64 cy ∧ 0 ≤ cy ∧ cy < 4294967296 ∧ Hid (ShlInv (dg x) q r i res cy) ∧ Hid (Wr wr w.heap.size 0 (fill res (k - i + 1))) ∧ Hid (Below w.heap.size w wr)) (fun v6 v21 wr => k - (intOf v21).toNat)
      case atStart => exact ⟨0, List.replicate q 0, 0, Nat.zero_le _, rfl, rfl, by omega, by omega, Lib.hid (ShlInv.start _ _ _), Lib.hid (by
        have e : fill (List.replicate q 0) (k - 0 + 1) = List.replicate (q + k + 1) 0 := by rw [fill, List.replicate_append_replicate, Nat.sub_zero, Nat.add_assoc]
        rw [e]; exact HW.out), HB⟩
      case round =>
        obtain ⟨i, res, cy, hi, rfl, rfl, cy0, cy1, HA, HW2, HB2⟩ := hrel
        by_cases hlt : i < k
        · obtain ⟨xi, hxi⟩ : ∃ z, (dg x)[i]? = some z := ⟨_, List.getElem?_eq_getElem (by rw [HK.out]; exact hlt)⟩
          obtain ⟨x0, x1⟩ := dgs_at (dgs_dg x) hxi
          have hcx := HC.out i xi hxi
          have hlt1 := World.block_lt_of_cell? w _ hcx
          rw [← HB2.out.cell (p := ⟨b, o + i, none⟩) hlt1] at hcx
          have hcell := HW2.out (q + i) 0 (by
            have := fill_get res (k - i)
            rwa [HA.out.len] at this)
          rw [Nat.zero_add] at hcell
          obtain ⟨hc1, hc2⟩ := hcell
          have hor := shl_or cy xi r (by omega) cy0 HA.out.c1 x0 x1
          have hA := ShlInv.step (dgs_dg x) HA.out xi hxi _ rfl
          have hc3 := hA.c1
          have hc4 := hA.c0
          have hp := pow2_32 (show r ≤ 32 by omega)
          obtain ⟨z, hz⟩ : ∃ z, cy + xi * 2 ^ r = z := ⟨_, rfl⟩
          rw [hz] at hor hA hc3 hc4
          have hz1 : z / 4294967296 < 4294967296 := by omega
          have hw : Wr (Go.World.setCell wr ⟨w.heap.size, q + i, none⟩ (.int .u32 (z % 4294967296))) w.heap.size 0 (fill (res ++ [z % 4294967296]) (k - (i + 1) + 1)) := by
            have := HW2.out.set (q + i) (z % 4294967296)
            rw [Nat.zero_add, show k - i + 1 = (k - (i + 1) + 1) + 1 by omega] at this
            have h2 := fill_set res (k - (i + 1) + 1) (z % 4294967296)
            rw [HA.out.len] at h2
            rwa [h2] at this
          have HWS := Lib.hid hw
          have HBS := Lib.hid (HB2.out.setCell (p := ⟨w.heap.size, q + i, none⟩) (Nat.le_refl _) (.int .u32 (z % 4294967296)))
          have HAS := Lib.hid hA
          clear hxi hA hw hz hc3 hp
          go_wp2_with fail
          go_roundw
          case rel => exact ⟨i + 1, _, _, by omega, by go_num, rfl, hc4, hz1, HAS, HWS, HBS⟩
          case measure => simp [intOf]; omega
        · obtain rfl : i = k := by omega
          have hlast := HW2.out (q + i) 0 (by
            have := fill_get res (i - i)
            rwa [HA.out.len] at this)
          rw [Nat.zero_add] at hlast
          obtain ⟨hc1, hc2⟩ := hlast
          have hA := HA.out
          rw [← HK.out] at hA
          have hv := ShlInv.fin hA
          have hd := dgs_snoc HA.out.ok cy0 cy1
          have hcm : cy % 4294967296 = cy := Int.emod_eq_of_lt cy0 cy1
          have hw : Wr (Go.World.setCell wr ⟨w.heap.size, q + i, none⟩ (.int .u32 cy)) w.heap.size 0 (res ++ [cy]) := by
            have := HW2.out.set (q + i) cy
            rw [Nat.zero_add, Nat.sub_self, Nat.zero_add] at this
            have h2 := fill_set res 0 cy
            rw [HA.out.len, fill_zero] at h2
            rwa [h2] at this
          have hlen : (res ++ [cy]).length = q + i + 1 := by rw [List.length_append, HA.out.len]; rfl
          have HL := Lib.hid hlen
          have HV := Lib.hid hv
          have HD := Lib.hid hd
          have HW3 := Lib.hid hw
          have HB3 := Lib.hid (HB2.out.setCell (p := ⟨w.heap.size, q + i, none⟩) (Nat.le_refl _) (.int .u32 cy))
          clear hA hv hd hw hlen
          go_wp2_with fail
          refine (trim_calls _ (q + i + 1) (q + i + 1) (res ++ [cy]) (x * 2 ^ (32 * q + r)) _ HL.out (Nat.le_refl _) (by omega) HD.out HV.out HW3.out.rd).mono ?_
          rintro e w' ⟨rfl, rfl⟩
          go_wp2_with fail
          go_ret
          exact ⟨_, rfl, Num.of_rd HW3.out.rd HD.out HV.out (Nat.le_of_eq HL.out) (by omega), HB3.out⟩
end Go.Proofs.YtfcfejlffmddnaaGreatDoor
end
section
/- Contracts: school. -/
namespace Go.Proofs.YtfcfejlffmddnaaGreatDoor
open Go.RowKit
set_option linter.unusedSimpArgs false
set_option linter.unusedVariables false

set_option maxRecDepth 10000 in
set_option maxHeartbeats 1000000 in
theorem school_calls (A1 A2 : Option Addr) (c1 c2 x y : Nat) (w : World) (hx : (dg x).length ≤ 1099511627776) (hy : (dg y).length ≤ 1099511627776) (h1 : Rd .u32 w A1 (dg x)) (h2 : Rd .u32 w A2 (dg y)) :
    Calls Tryz.prog 96 #[.slice A1 (dg x).length c1, .slice A2 (dg y).length c2] w fun e w' => ∃ v, e = .returned v ∧ Num w' v (x * y) ∧ Below w.heap.size w w' := by
  obtain ⟨k1, hk1⟩ : ∃ k, (dg x).length = k := ⟨_, rfl⟩
  obtain ⟨k2, hk2⟩ : ∃ k, (dg y).length = k := ⟨_, rfl⟩
  rw [hk1, hk2]
  rw [hk1] at hx
  rw [hk2] at hy
  have m1 := run_make_row' (P := Tryz.prog) 78 57 (.int .u32 0) 4 Tryz.underlying78 info57 rfl .i64 .i64 (k1 + k2) (by omega) (by omega)
  rw [Int.natCast_add] at m1
  have HK1 := Lib.hid hk1
  have HK2 := Lib.hid hk2
  have H1 := Lib.hid h1
  have H2 := Lib.hid h2
  clear hk1 hk2 h1 h2
  go_enter Tryz.func96, Tryz.ntmps96
  go_upto_region 1 with fail
  go_cut [5] (fun v wc => v = .slice (some ⟨w.heap.size, 0, none⟩) (k1 + k2) (k1 + k2) ∧ Hid (Wr wc w.heap.size 0 (List.replicate (k1 + k2) 0)) ∧ Hid (Below w.heap.size w wc))
  case first =>
    go_wp2_with fail
    go_meet
    case rel => exact ⟨rfl, Lib.hid (Wr.made _ _ _), Lib.hid ((Below.refl _ _).alloc (Nat.le_refl _) _)⟩
  case rest =>
    obtain ⟨rfl, HW, HB⟩ := hcut
    clear m1
    go_wp2_with fail
    go_loopw [19] (fun v19 wr => ∃ (i : Nat) (out : List Int), i ≤ k1 ∧ v19 = .int .i64 i ∧ Hid (MulOut (dg x) (dg y) i out) ∧ Hid (Wr wr w.heap.size 0 out) ∧ Hid (Below w.heap.size w wr)) (fun v19 wr => k1 - (intOf v19).toNat)
    case atStart => exact ⟨0, List.replicate (k1 + k2) 0, Nat.zero_le _, rfl, Lib.hid (by rw [← HK1.out, ← HK2.out]; exact MulOut.start _ _), HW, HB⟩
    case round =>
      obtain ⟨i, out0, hi, rfl, HA, HW2, HB2⟩ := hrel
      by_cases hlt : i < k1
      · obtain ⟨xi, hxi⟩ : ∃ z, (dg x)[i]? = some z := ⟨_, List.getElem?_eq_getElem (by rw [HK1.out]; exact hlt)⟩
        obtain ⟨x0, x1⟩ := dgs_at (dgs_dg x) hxi
        obtain ⟨b1, o1, rfl, r1⟩ := (H1.out.below HB2.out) (by intro h; rw [h] at hxi; simp at hxi)
        have hcx := r1 i xi hxi
        have HX := Lib.hid hxi
        clear r1 hxi
        go_wp2_with fail
        go_loopw [8, 26] (fun v8 v26 wr => ∃ (k : Nat) (out : List Int) (cy : Int), k ≤ k2 ∧ v26 = .int .i64 k ∧ v8 = .int .u64 cy ∧ 0 ≤ cy ∧ cy < 4294967296 ∧ Hid (MulInv (dg y) out0 xi i k out cy) ∧ Hid (Wr wr w.heap.size 0 out) ∧ Hid (Below w.heap.size w wr)) (fun v8 v26 wr => k2 - (intOf v26).toNat)
        case atStart => exact ⟨0, out0, 0, Nat.zero_le _, rfl, rfl, by omega, by omega, Lib.hid (MulInv.start HA.out.ok), HW2, HB2⟩
        case round =>
          obtain ⟨k, out, cy, hk, rfl, rfl, cy0, cy1, HI, HW3, HB3⟩ := hrel
          by_cases hlk : k < k2
          · obtain ⟨yk, hyk⟩ : ∃ z, (dg y)[k]? = some z := ⟨_, List.getElem?_eq_getElem (by rw [HK2.out]; exact hlk)⟩
            obtain ⟨y0, y1⟩ := dgs_at (dgs_dg y) hyk
            obtain ⟨b2, o2, rfl, r2⟩ := (H2.out.below HB3.out) (by intro h; rw [h] at hyk; simp at hyk)
            have hcy := r2 k yk hyk
            have hlen : i + k < out.length := by rw [HI.out.len, HA.out.len, HK1.out, HK2.out]; omega
            obtain ⟨zk, hzk⟩ : ∃ z, out[i + k]? = some z := ⟨_, List.getElem?_eq_getElem hlen⟩
            obtain ⟨z0, z1⟩ := dgs_at HI.out.ok hzk
            have hcell := HW3.out (i + k) zk hzk
            rw [Nat.zero_add] at hcell
            obtain ⟨hc1, hc2⟩ := hcell
            obtain ⟨m0, m1⟩ := mul_lt_BB x0 x1 y0 y1
            have hI := MulInv.step (dgs_dg y) x0 x1 HI.out yk zk hyk hzk _ rfl
            obtain ⟨pr, hpr⟩ : ∃ p, xi * yk = p := ⟨_, rfl⟩
            rw [hpr] at m0 m1 hI
            have hw := HW3.out.set (i + k) ((cy + (pr + zk)) % 4294967296)
            rw [Nat.zero_add] at hw
            have HIS := Lib.hid hI
            have HWS := Lib.hid hw
            have HBS := Lib.hid (HB3.out.setCell (p := ⟨w.heap.size, i + k, none⟩) (Nat.le_refl _) (.int .u32 ((cy + (pr + zk)) % 4294967296)))
            clear hyk hzk r2 hI hw hlen
            go_wp2_with fail
            go_roundw
            case rel => exact ⟨k + 1, _, _, by omega, by go_num, rfl, by omega, by omega, HIS, HWS, HBS⟩
            case measure => simp [intOf]; omega
          · obtain rfl : k = k2 := by omega
            have hI := HI.out
            rw [← HK2.out] at hI
            have hO := MulOut.step HX.out HA.out hI
            rw [HK2.out] at hO
            have hlen : i + k < out.length := by rw [HI.out.len, HA.out.len, HK1.out, HK2.out]; omega
            obtain ⟨zk, hzk⟩ : ∃ z, out[i + k]? = some z := ⟨_, List.getElem?_eq_getElem hlen⟩
            have hcell := HW3.out (i + k) zk hzk
            rw [Nat.zero_add] at hcell
            obtain ⟨hc1, hc2⟩ := hcell
            have hcm : cy % 4294967296 = cy := Int.emod_eq_of_lt cy0 cy1
            have hw := HW3.out.set (i + k) cy
            rw [Nat.zero_add] at hw
            have HOS := Lib.hid hO
            have HWS := Lib.hid hw
            have HBS := Lib.hid (HB3.out.setCell (p := ⟨w.heap.size, i + k, none⟩) (Nat.le_refl _) (.int .u32 cy))
            clear hzk hI hO hw hlen
            go_wp2_with fail
            go_roundw
            case rel => exact ⟨i + 1, _, by omega, by go_num, HOS, HWS, HBS⟩
            case measure => simp [intOf]; omega
      · obtain rfl : i = k1 := by omega
        have hO := HA.out
        rw [← HK1.out] at hO
        have hv := MulOut.fin hO
        have hlen : out0.length = i + k2 := by rw [HA.out.len, HK1.out, HK2.out]
        have HL := Lib.hid hlen
        have HV := Lib.hid hv
        clear hO hv hlen
        go_wp2_with fail
        refine (trim_calls _ (i + k2) (i + k2) out0 (x * y) _ HL.out (Nat.le_refl _) (by omega) HA.out.ok HV.out HW2.out.rd).mono ?_
        rintro e w' ⟨rfl, rfl⟩
        go_wp2_with fail
        go_ret
        exact ⟨_, rfl, Num.of_rd HW2.out.rd HA.out.ok HV.out (Nat.le_of_eq HL.out) (by omega), HB2.out⟩
end Go.Proofs.YtfcfejlffmddnaaGreatDoor
end
section
/- Contracts: Clone, high, low. -/
namespace Go.Proofs.YtfcfejlffmddnaaGreatDoor
open Go.RowKit
set_option linter.unusedSimpArgs false
set_option linter.unusedVariables false

theorem row_rd {w : World} {base T : Nat} {v : Value} {l : List Int} {k : Nat} (hk : l.length = k) (h : w.ownsRow base T 1 v k (l.map (.int .u32))) : ∃ A c, v = .slice A k c ∧ Rd .u32 w A l ∧ k ≤ c ∧ c ≤ 9223372036854775807 := by
  subst hk
  rcases h.2 with ⟨rfl, h0⟩ | ⟨g, cap, cur, rfl, hb, hg, h1, h2, h3, h4⟩
  · have : l = [] := List.eq_nil_of_length_eq_zero h0
    subst this
    exact ⟨none, 0, rfl, Rd.nil, by simp, by omega⟩
  · refine ⟨_, cap, rfl, fun _ => ⟨g, 0, rfl, fun j x hx => ?_⟩, h1, by unfold maxLen at h2; omega⟩
    have := h.cells (g := g) rfl j (.int .u32 x) (by simp [hx])
    rw [Nat.zero_add]
    rwa [show (⟨g, 0, none⟩ : Addr).add j = ⟨g, j, none⟩ from by unfold Addr.add; split <;> simp_all] at this
theorem eqnil (A : Option Addr) (n c n' c' : Nat) (w : World) : (binOp .eql 78 (.slice A n c) (.slice none n' c')).run Tryz.prog w = .ok (.bool A.isNone) w := Lib.run_eql_slice_nil w _ _ A n c n' c' Tryz.underlying78

set_option maxRecDepth 10000 in
set_option maxHeartbeats 1000000 in
theorem clone_calls (A : Option Addr) (c k : Nat) (l : List Int) (w : World) (hk : l.length = k) (hkb : k ≤ 1099511627776) (hR : Rd .u32 w A l) :
    Calls Tryz.prog 110 #[.slice A k c] w fun e w' => ∃ A' c', e = .returned (.slice A' k c') ∧ Rd .u32 w' A' l ∧ k ≤ c' ∧ c' ≤ 9223372036854775807 ∧ Below w.heap.size w w' := by
  obtain ⟨i0, hi, hz0, hz1, hz2⟩ : ∃ i, Tryz.prog.info? 57 = some i ∧ i.zero = some (.int .u32 0) ∧ i.size = 1 ∧ i.bytes = 4 := by
    obtain ⟨i, hi, hzz⟩ := Option.map_eq_some_iff.1 info57
    simp only [Prod.mk.injEq] at hzz
    exact ⟨i, hi, hzz.1, hzz.2.1, hzz.2.2⟩
  have heq := eqnil
  cases A with
  | none =>
    have hl : l = [] := by
      cases l with
      | nil => rfl
      | cons a l => obtain ⟨_, _, e, _⟩ := hR (by simp); cases e
    subst hl
    subst hk
    clear hR hi hz0 hz1 hz2
    go_enter Tryz.func110, Tryz.ntmps110
    go_wp2
    go_ret
    exact ⟨none, 0, rfl, Rd.nil, by simp, by omega, Below.refl _ _⟩
  | some a =>
    have HK := Lib.hid hk
    have HR := Lib.hid hR
    clear hk hR
    by_cases h0 : k = 0
    · subst h0
      have hl : l = [] := List.eq_nil_of_length_eq_zero HK.out
      subst hl
      go_enter Tryz.func110, Tryz.ntmps110
      go_wp2_with (at_builtin; refine wpList_append_own _ rfl _ _ 78 rfl w.heap.size 57 i0 (.int .u32 0) 1 4 Tryz.underlying78 hi hz0 hz1 hz2 rfl (by decide) _ _ _ rfl (World.ownsRow_made w #[] 0 (Nat.le_refl _) (Nat.zero_le _) rfl) a 0 c [] rfl (by simp) (by simp) (by simp) (by simp) (by simp) (by simp) ?_)
      intro v' w1 hown hgrow hnil
      clear hi hz0 hz1 hz2 hnil heq
      go_wp2
      go_ret
      obtain ⟨A', c', rfl, h1, h2, h3⟩ := row_rd (l := []) rfl hown
      exact ⟨A', c', rfl, h1, h2, h3, ((Below.refl _ w).alloc (Nat.le_refl _) _).grown hgrow (by simp) (by intro k hk; simp [Value.ownBlock] at hk; omega)⟩
    · obtain ⟨b, o, e, hcc⟩ := HR.out (by intro h; rw [h] at HK; exact h0 HK.out.symm)
      injection e with e; subst e
      have HC := Lib.hid hcc
      clear hcc HR
      go_enter Tryz.func110, Tryz.ntmps110
      go_wp2_with (at_builtin; refine wpList_append_own _ rfl _ _ 78 rfl w.heap.size 57 i0 (.int .u32 0) 1 4 Tryz.underlying78 hi hz0 hz1 hz2 rfl (by decide) _ _ _ rfl (World.ownsRow_made w #[] 0 (Nat.le_refl _) (Nat.zero_le _) rfl) ⟨b, o, none⟩ k c (l.map (.int .u32)) rfl ?qc1 ?qc2 ?qc3 ?qc4 ?qc5 ?qc6 ?qc7)
      case qc1 => simp [HK.out]
      case qc2 =>
        intro j u hj
        rw [List.getElem?_map] at hj
        obtain ⟨y, hy, rfl⟩ := Option.map_eq_some_iff.1 hj
        rw [show (⟨b, o, none⟩ : Addr).add j = ⟨b, o + j, none⟩ from by unfold Addr.add; split <;> simp_all]
        exact Lib.cell?_alloc_some _ (HC.out j y hy)
      case qc3 => intro u hu; obtain ⟨x, _, rfl⟩ := List.mem_map.1 hu; rfl
      case qc4 => unfold maxLen; omega
      case qc5 => omega
      case qc6 => simp
      case qc7 =>
        intro v' w1 hown hgrow hnil
        clear hi hz0 hz1 hz2 hnil heq
        go_wp2
        go_ret
        obtain ⟨A', c', rfl, h1, h2, h3⟩ := row_rd HK.out hown
        exact ⟨A', c', rfl, h1, h2, h3, ((Below.refl _ w).alloc (Nat.le_refl _) _).grown hgrow (by simp) (by intro k hk; simp [Value.ownBlock] at hk; omega)⟩

/-! ### Cuts -/
theorem dg_cut (x m : Nat) : (dg x).drop m = dg (x / 4294967296 ^ m) ∧ vl ((dg x).take m) = ((x % 4294967296 ^ m : Nat) : Int) := by
  have h1 := vl_take_drop (dg x) m
  have h2 := vl_nonneg (dgs_take (dgs_dg x) m)
  have h3 := vl_nonneg (dgs_drop (dgs_dg x) m)
  have h4 : vl ((dg x).take m) < BB m := Int.lt_of_lt_of_le (vl_lt (dgs_take (dgs_dg x) m)) (BB_le (by rw [List.length_take]; omega))
  obtain ⟨lo, hlo⟩ := Int.eq_ofNat_of_zero_le h2
  obtain ⟨hi, hhi⟩ := Int.eq_ofNat_of_zero_le h3
  rw [vl_dg, hlo, hhi, BB_nat] at h1
  rw [hlo, BB_nat] at h4
  have e1 : x = hi * 4294967296 ^ m + lo := by
    have : x = lo + 4294967296 ^ m * hi := by exact_mod_cast h1
    rw [this, Nat.mul_comm]; omega
  obtain ⟨q1, q2⟩ := nat_quo (Nat.pow_pos (by decide)) e1 (by exact_mod_cast h4)
  refine ⟨?_, by rw [hlo, q2]⟩
  refine dg_of (dgs_drop (dgs_dg x) m) ?_ (by rw [hhi, q1])
  rw [List.getLast?_drop]
  split
  · simp
  · exact last_dg x

theorem Rd.from {k : IntKind} {w : World} {A : Option Addr} {l : List Int} (h : Rd k w A l) (j : Nat) : Rd k w (Option.map (fun a => a.add j) A) (l.drop j) := fun hn => by
  obtain ⟨b, o, rfl, hc⟩ := h (by rintro rfl; simp at hn)
  refine ⟨b, o + j, ?_, fun i y hy => ?_⟩
  · show some ((⟨b, o, none⟩ : Addr).add j) = _
    rw [show (⟨b, o, none⟩ : Addr).add j = ⟨b, o + j, none⟩ from by unfold Addr.add; split <;> simp_all]
  · rw [List.getElem?_drop] at hy
    rw [Nat.add_assoc]; exact hc _ _ hy
theorem drop_min (l : List Int) (m k : Nat) (h : l.length = k) : l.drop (min m k) = l.drop m := by
  rcases Nat.le_total m k with h1 | h1
  · rw [Nat.min_eq_left h1]
  · rw [Nat.min_eq_right h1, List.drop_of_length_le (by omega), List.drop_of_length_le (by omega)]
theorem take_min (l : List Int) (m k : Nat) (h : l.length = k) : l.take (min m k) = l.take m := by
  rcases Nat.le_total m k with h1 | h1
  · rw [Nat.min_eq_left h1]
  · rw [Nat.min_eq_right h1, List.take_of_length_le (by omega), List.take_of_length_le (by omega)]
theorem min_cast (m k : Nat) : min (m : Int) (k : Int) = ((min m k : Nat) : Int) := by omega

set_option maxRecDepth 10000 in
set_option maxHeartbeats 1000000 in
theorem high_calls (A : Option Addr) (c x : Nat) (n : Int) (w : World) (hx : (dg x).length ≤ 1099511627776) (h0 : 0 ≤ n) (hR : Rd .u32 w A (dg x)) (hc : (dg x).length ≤ c) :
    Calls Tryz.prog 113 #[.slice A (dg x).length c, .int .i64 n] w fun e w' => ∃ v, e = .returned v ∧ Num w' v (x / 4294967296 ^ n.toNat) ∧ Below w.heap.size w w' := by
  obtain ⟨m, rfl⟩ := Int.eq_ofNat_of_zero_le h0
  rw [Int.toNat_natCast]
  obtain ⟨d1, _⟩ := dg_cut x m
  obtain ⟨k, hk⟩ : ∃ k, (dg x).length = k := ⟨_, rfl⟩
  rw [← drop_min _ m k hk] at d1
  have hmin := min_cast m k
  obtain ⟨j, hj⟩ : ∃ j, min m k = j := ⟨_, rfl⟩
  rw [hj] at hmin d1
  have hjk : j ≤ k := by omega
  have hjz : (0 : Int) ≤ j := by omega
  have hjz2 : (j : Int) ≤ k := by omega
  have hdl : (dg (x / 4294967296 ^ m)).length = k - j := by rw [← d1, List.length_drop, hk]
  rw [hk] at hx hc ⊢
  have r1 := hR.from j
  rw [d1] at r1
  have hnil : c = j → dg (x / 4294967296 ^ m) = [] := fun h => by
    apply List.eq_nil_of_length_eq_zero; rw [hdl]; omega
  have HR := Lib.hid r1
  have HL := Lib.hid hdl
  have HN := Lib.hid hnil
  clear hk hR d1 hdl h0 hj hnil r1
  by_cases hcj : c = j
  · have HN2 := Lib.hid (HN.out hcj)
    clear HN
    subst hcj
    go_enter Tryz.func113, Tryz.ntmps113
    go_wp2_with fail
    refine (clone_calls A 0 0 [] w rfl (by omega) Rd.nil).mono ?_
    rintro e w' ⟨A', c', rfl, g1, g2, g3, g4⟩
    clear g1
    go_wp2_with fail
    go_ret
    exact ⟨_, rfl, ⟨A', c', by rw [HN2.out]; rfl, by rw [HN2.out]; exact Rd.nil, by rw [HN2.out]; exact Nat.zero_le _, g3⟩, g4⟩
  · go_enter Tryz.func113, Tryz.ntmps113
    go_wp2_with fail
    refine (clone_calls _ _ _ (dg (x / 4294967296 ^ m)) w HL.out (by omega) HR.out).mono ?_
    rintro e w' ⟨A', c', rfl, g1, g2, g3, g4⟩
    have G := Lib.hid g1
    rw [← HL.out] at g2
    clear g1
    go_wp2_with fail
    go_ret
    exact ⟨_, rfl, ⟨A', c', by rw [HL.out]; rfl, G.out, g2, g3⟩, g4⟩

set_option maxRecDepth 10000 in
set_option maxHeartbeats 1000000 in
theorem low_calls (A : Option Addr) (c x : Nat) (n : Int) (w : World) (hx : (dg x).length ≤ 1099511627776) (h0 : 0 ≤ n) (hR : Rd .u32 w A (dg x)) (hc : (dg x).length ≤ c) :
    Calls Tryz.prog 114 #[.slice A (dg x).length c, .int .i64 n] w fun e w' => ∃ v, e = .returned v ∧ Num w' v (x % 4294967296 ^ n.toNat) ∧ Below w.heap.size w w' := by
  obtain ⟨m, rfl⟩ := Int.eq_ofNat_of_zero_le h0
  rw [Int.toNat_natCast]
  obtain ⟨_, d1⟩ := dg_cut x m
  obtain ⟨k, hk⟩ : ∃ k, (dg x).length = k := ⟨_, rfl⟩
  have hmin := min_cast m k
  obtain ⟨j, hj⟩ : ∃ j, min m k = j := ⟨_, rfl⟩
  have e1 : (dg x).take j = (dg x).take m := by rw [← hj]; exact take_min _ _ _ hk
  rw [hj] at hmin
  have hjk : j ≤ k := by omega
  have hjz : (0 : Int) ≤ j := by omega
  have hjz2 : (j : Int) ≤ c := by omega
  have hjb : j ≤ 1099511627776 := by omega
  have hdl : ((dg x).take j).length = j := by rw [List.length_take, hk]; omega
  rw [hk] at hx hc ⊢
  rw [← e1] at d1
  have HR := Lib.hid (hR.take j)
  have HL := Lib.hid hdl
  have HV := Lib.hid d1
  have HD := Lib.hid (dgs_take (dgs_dg x) j)
  clear hk hR d1 hdl h0 hj e1
  go_enter Tryz.func114, Tryz.ntmps114
  go_wp2_with fail
  refine (clone_calls A c j ((dg x).take j) w HL.out hjb HR.out).mono ?_
  rintro e w' ⟨A', c', rfl, g1, g2, g3, g4⟩
  have G := Lib.hid g1
  have G4 := Lib.hid g4
  clear g1 g4
  go_wp2_with fail
  refine (trim_calls A' c' j ((dg x).take j) (x % 4294967296 ^ m) _ HL.out g2 g3 HD.out HV.out G.out).mono ?_
  rintro e w' ⟨rfl, rfl⟩
  go_wp2_with fail
  go_ret
  exact ⟨_, rfl, Num.of_rd G.out HD.out HV.out (by rw [HL.out]; exact g2) g3, G4.out⟩
end Go.Proofs.YtfcfejlffmddnaaGreatDoor
end
section
/- Contracts: shr. -/
namespace Go.Proofs.YtfcfejlffmddnaaGreatDoor
open Go.RowKit
set_option linter.unusedSimpArgs false
set_option linter.unusedVariables false

theorem digit_lt (x i : Nat) : 0 ≤ (dg x).getD i 0 ∧ (dg x).getD i 0 < 4294967296 := dgs_getD (dgs_dg x) i
theorem or_shl32 (a b : Int) (a0 : 0 ≤ a) (a1 : a < 4294967296) (b0 : 0 ≤ b) (b1 : b < 4294967296) : bits .or .u64 a (b * 4294967296) = a + b * 4294967296 := by
  rw [u64_or a _ a0 (by omega) (by omega) (by omega), Nat.or_comm]
  rw [or_join (b * 4294967296) a 32 (by omega) a0 (by omega) (by omega)]; omega
def ShrInv (y i : Nat) (res : List Int) : Prop := res.length = i ∧ ∀ (j : Nat) z, res[j]? = some z → z = ((y / 4294967296 ^ j % 4294967296 : Nat) : Int)
theorem ShrInv.step {y i : Nat} {res : List Int} (h : ShrInv y i res) : ShrInv y (i + 1) (res ++ [((y / 4294967296 ^ i % 4294967296 : Nat) : Int)]) := by
  obtain ⟨h1, h2⟩ := h
  refine ⟨by simp [h1], fun j z hz => ?_⟩
  rcases Nat.lt_or_ge j res.length with hj | hj
  · rw [List.getElem?_append_left hj] at hz; exact h2 j z hz
  · rw [List.getElem?_append_right hj] at hz
    have : j - res.length = 0 := by
      have := (List.getElem?_eq_some_iff.1 hz).1
      simp at this; omega
    rw [this] at hz
    simp at hz
    have hji : j = i := by omega
    rw [hji, ← hz]; simp
theorem ShrInv.dgs {y i : Nat} {res : List Int} (h : ShrInv y i res) : dgs res := by
  intro z hz
  obtain ⟨j, hj, rfl⟩ := List.getElem_of_mem hz
  rw [h.2 j _ (List.getElem?_eq_getElem hj)]
  have := Nat.mod_lt (y / 4294967296 ^ j) (show 0 < 4294967296 by decide)
  omega
theorem shr_lt (x q r n : Nat) (h : x < 4294967296 ^ (n + q)) : x / 2 ^ (32 * q + r) < 4294967296 ^ n := by
  have e : (2 : Nat) ^ (32 * q) = 4294967296 ^ q := by rw [Nat.pow_mul]
  rw [Nat.pow_add, e, ← Nat.div_div_eq_div_mul]
  refine Nat.lt_of_le_of_lt (Nat.div_le_self _ _) ?_
  rw [Nat.div_lt_iff_lt_mul (Nat.pow_pos (by decide)), ← Nat.pow_add]; exact h

set_option maxRecDepth 10000 in
set_option maxHeartbeats 1000000 in
theorem shr_calls (A : Option Addr) (c x : Nat) (sh : Int) (w : World) (hx : (dg x).length ≤ 1099511627776) (h0 : 0 ≤ sh) (hR : Rd .u32 w A (dg x)) :
    Calls Tryz.prog 101 #[.slice A (dg x).length c, .int .i64 sh] w fun e w' => ∃ v, e = .returned v ∧ Num w' v (x / 2 ^ sh.toNat) ∧ Below w.heap.size w w' := by
  have hsz := size_calls A c x w hx hR
  have hbl := bl_len x
  obtain ⟨s, hs⟩ : ∃ s, bl x = s := ⟨_, rfl⟩
  obtain ⟨k, hk⟩ : ∃ k, (dg x).length = k := ⟨_, rfl⟩
  rw [hk, hs] at hsz hbl
  rw [hk] at hx ⊢
  have HS := Lib.hid hsz
  have HR := Lib.hid hR
  by_cases hge : (s : Int) ≤ sh
  · have hz : x / 2 ^ sh.toNat = 0 := by
      rw [Nat.div_eq_zero_iff]; right
      have : bl x ≤ sh.toNat := by omega
      exact bl_le.1 this
    have hw : Num w (.slice none 0 0) (x / 2 ^ sh.toNat) := by rw [hz]; exact ⟨none, 0, by rw [dg_zero]; rfl, by rw [dg_zero]; exact Rd.nil, by rw [dg_zero]; simp, by omega⟩
    have HW := Lib.hid hw
    clear hw hz hsz hs hk hR
    go_enter Tryz.func101, Tryz.ntmps101
    go_wp2_with fail
    refine HS.out.mono ?_
    rintro e w' ⟨rfl, rfl⟩
    go_wp2_with fail
    go_ret
    exact ⟨_, rfl, HW.out, Below.refl _ _⟩
  · obtain ⟨q, hq⟩ : ∃ q : Nat, sh / 32 = q := ⟨(sh / 32).toNat, by omega⟩
    obtain ⟨r, hr⟩ : ∃ r : Nat, sh % 32 = r := ⟨(sh % 32).toNat, by omega⟩
    have hr32 : r < 32 := by omega
    have hsh : sh.toNat = 32 * q + r := by omega
    have hqk : q < k := by omega
    obtain ⟨N, hN⟩ : ∃ N, k = N + q := ⟨k - q, by omega⟩
    subst hN
    have hN0 : 0 < N := by omega
    rw [hsh]
    have hlt : x / 2 ^ (32 * q + r) < 4294967296 ^ N := by
      refine shr_lt x q r N ?_
      have := (dg_len_le x (N + q)).1 (Nat.le_of_eq hk)
      rw [BB_nat] at this
      exact_mod_cast this
    obtain ⟨y, hy⟩ : ∃ y, x / 2 ^ (32 * q + r) = y := ⟨_, rfl⟩
    have hdig : ∀ i, ((y / 4294967296 ^ i % 4294967296 : Nat) : Int) = ((dg x).getD (i + q) 0 + (dg x).getD (i + q + 1) 0 * 4294967296) / 2 ^ r % 4294967296 := fun i => by
      rw [dg_getD, dg_getD, ← hy, shr_digit x q r i hr32, Nat.mul_comm 4294967296 (x / 4294967296 ^ (i + q + 1) % 4294967296)]
      have e : (2 : Int) ^ r = ((2 ^ r : Nat) : Int) := by rw [Int.natCast_pow]; rfl
      rw [e, Int.natCast_emod, Int.natCast_ediv, Int.natCast_add, Int.natCast_mul]; rfl
    rw [hy] at hlt ⊢
    have m1 := run_make_row' (P := Tryz.prog) 78 57 (.int .u32 0) 4 Tryz.underlying78 info57 rfl .i64 .i64 N (by omega) (by omega)
    have HK := Lib.hid hk
    have HD := Lib.hid hdig
    have HY := Lib.hid hlt
    clear hsz hs hk hR hdig hlt hsh hy hbl
    go_enter Tryz.func101, Tryz.ntmps101
    go_wp2_with fail
    refine HS.out.mono ?_
    rintro e w' ⟨rfl, rfl⟩
    go_upto_region 3 with fail
    go_cut [5] (fun v wc => v = .slice (some ⟨w.heap.size, 0, none⟩) N N ∧ Hid (Wr wc w.heap.size 0 (List.replicate N 0)) ∧ Hid (Below w.heap.size w wc))
    case first =>
      go_wp2_with fail
      go_meet
      case rel => exact ⟨rfl, Lib.hid (Wr.made _ _ _), Lib.hid ((Below.refl _ _).alloc (Nat.le_refl _) _)⟩
    case rest =>
      obtain ⟨rfl, HW, HB⟩ := hcut
      clear m1
      go_wp2_with fail
      go_loopw [20] (fun v20 wr => ∃ (i : Nat) (res : List Int), i ≤ N ∧ v20 = .int .i64 i ∧ Hid (ShrInv y i res) ∧ Hid (Wr wr w.heap.size 0 (fill res (N - i))) ∧ Hid (Below w.heap.size w wr)) (fun v20 wr => N - (intOf v20).toNat)
      case atStart => exact ⟨0, [], Nat.zero_le _, rfl, Lib.hid ⟨rfl, fun j z hz => by simp at hz⟩, by rw [Nat.sub_zero]; exact HW, HB⟩
      case round =>
        obtain ⟨i, res, hi, rfl, HA, HW2, HB2⟩ := hrel
        by_cases hlt : i < N
        · obtain ⟨xi, hxi⟩ : ∃ z, (dg x).getD (i + q) 0 = z := ⟨_, rfl⟩
          obtain ⟨yi, hyi⟩ : ∃ z, (dg x).getD (i + q + 1) 0 = z := ⟨_, rfl⟩
          obtain ⟨x0, x1⟩ := digit_lt x (i + q)
          obtain ⟨y0, y1⟩ := digit_lt x (i + q + 1)
          rw [hxi] at x0 x1
          rw [hyi] at y0 y1
          obtain ⟨M, hM⟩ : ∃ M, N - i = M + 1 := ⟨N - i - 1, by omega⟩
          have hcell := HW2.out i 0 (by rw [hM, ← HA.out.1]; exact fill_get res M)
          rw [Nat.zero_add] at hcell
          obtain ⟨hc1, hc2⟩ := hcell
          have hA := HA.out.step
          have hdi := HD.out i
          rw [hxi, hyi] at hdi
          have hor := or_shl32 xi yi x0 x1 y0 y1
          have hy2 : yi * 4294967296 ≤ 18446744069414584320 := by omega
          obtain ⟨z, hz⟩ : ∃ z, (xi + yi * 4294967296) / 2 ^ r % 4294967296 = z := ⟨_, rfl⟩
          rw [hdi, hz] at hA
          have hw : Wr (Go.World.setCell wr ⟨w.heap.size, i, none⟩ (.int .u32 z)) w.heap.size 0 (fill (res ++ [z]) (N - (i + 1))) := by
            have := HW2.out.set i z
            rw [Nat.zero_add, hM, ← HA.out.1, fill_set] at this
            rwa [show N - (i + 1) = M by omega, ← HA.out.1]
          have HX : Hid ((dg x).getD ((i : Int) + q).toNat 0 = xi) := Lib.hid (by rw [show ((i : Int) + q).toNat = i + q by omega]; exact hxi)
          have HY2 : Hid ((dg x).getD ((i : Int) + q + 1).toNat 0 = yi) := Lib.hid (by rw [show ((i : Int) + q + 1).toNat = i + q + 1 by omega]; exact hyi)
          have HAS := Lib.hid hA
          have HWS := Lib.hid hw
          have HBS := Lib.hid (HB2.out.setCell (p := ⟨w.heap.size, i, none⟩) (Nat.le_refl _) (.int .u32 z))
          have HZ := Lib.hid hz
          have R1 := Lib.hid (HR.out.below HB2.out)
          clear hM hA hdi hw hz hxi hyi
          go_wp2_with fail
          refine (at_int A c (N + q) x _ _ xi HK (by omega) (by omega) (by omega) R1.out HX).mono ?_
          rintro e w' ⟨rfl, rfl⟩
          go_wp2_with fail
          refine (at_int A c (N + q) x _ _ yi HK (by omega) (by omega) (by omega) R1.out HY2).mono ?_
          rintro e w' ⟨rfl, rfl⟩
          go_wp2_with fail
          go_roundw
          case rel => exact ⟨i + 1, _, by omega, by go_num, HAS, by rw [HZ.out]; exact HWS, by rw [HZ.out]; exact HBS⟩
          case measure => simp [intOf]; omega
        · obtain rfl : i = N := by omega
          have hv : vl res = y := by rw [vl_of_digits res y HA.out.2, HA.out.1, Nat.mod_eq_of_lt HY.out]
          have hw : Wr wr w.heap.size 0 res := by have := HW2.out; rwa [Nat.sub_self, fill_zero] at this
          have HV := Lib.hid hv
          have HW3 := Lib.hid hw
          clear hv hw
          go_wp2_with fail
          refine (trim_calls _ i i res y wr HA.out.1 (Nat.le_refl _) (by omega) HA.out.dgs HV.out HW3.out.rd).mono ?_
          rintro e w' ⟨rfl, rfl⟩
          go_wp2_with fail
          go_ret
          exact ⟨_, rfl, Num.of_rd HW3.out.rd HA.out.dgs HV.out (Nat.le_of_eq HA.out.1) (by omega), HB2.out⟩
end Go.Proofs.YtfcfejlffmddnaaGreatDoor
end
section
/- A range over an iterator whose elements are known by their numbers, the body may stop it. -/
namespace Go.Proofs.YtfcfejlffmddnaaGreatDoor
open Go.RowKit Go.Shelf
set_option linter.unusedSimpArgs false
set_option linter.unusedVariables false

/-- The iterator's word: what it hands on with number k is enc k; it is asked at every pair of invariants of which the first one gives it what it reads (I). -/
def Yields (n : Nat) (P : Program) (gf : Nat) (lb : Array Value) (enc : Nat → Array Value) (I : Nat → World → Prop) (S : Nat → Prop) (N : Nat) : Prop :=
  ∀ (l : Nat) (J Jx : Nat → World → Prop), (∀ k W, J k W → I k W) →
    (∀ k W1, J k W1 → k < N → YieldAt Fence.wide (n - 1) P l (enc k) W1 fun r W' =>
      (r = .returned (.bool true) ∧ k + 1 ≤ N ∧ J (k + 1) W') ∨ (r = .returned (.bool false) ∧ Jx (k + 1) W')) →
    ∀ W, J 0 W → CallsIn Fence.wide n P gf (#[.func (.yield l) #[] #[]] ++ lb) W fun r W' => (∃ v, r = .returned v) ∧ ((∃ k, S k ∧ J k W') ∨ (∃ k, Jx k W'))

/-- How a round may be left. -/
def roundEnd (I : Nat → World → Prop) (Ix : Code → Nat → World → Prop) (N k : Nat) (W : World) : Exit → Act → World → Prop
  | .normal, _, W' => KeepsOthers W W' ∧ k + 1 ≤ N ∧ I (k + 1) W'
  | .ret, _, W' => KeepsOthers W W' ∧ Ix .ret (k + 1) W'
  | .exit id, _, W' => KeepsOthers W W' ∧ Ix (.exit id) (k + 1) W'
  | .goto t, _, W' => KeepsOthers W W' ∧ Ix (.goto t) (k + 1) W'
  | .panic _, _, _ => False
  | .outgrown, _, _ => False

/-- What abides the turn of a block that is no row of cells, from the number B on. -/
def Turns (B : Nat) (I : World → Prop) : Prop := ∀ W l o o', I W → B ≤ l → W.heap[l]? = some o → o.isCells = false → I (W.putObj l o')

theorem range_seq {P : Program} {n : Nat} {g : Operand} {ps : Array Tmp} {assign body : Code} {Q : Exit → Act → World → Prop} {a : Act} {w : World}
    (hn : 1 ≤ n) {gf : Nat} {lb : Array Value} (hg : a.eval g = .func (.func gf) #[] lb) (eg : ∀ args w, (callFunc gf args).run P w = .ok (.enter gf args) w)
    {enc : Nat → Array Value} (hps : ∀ k, (enc k).size = ps.size) {S : Nat → Prop} {N : Nat}
    (I : Nat → World → Prop) (Ix : Code → Nat → World → Prop) (hI : ∀ k, Turns w.heap.size (I k)) (hIx : ∀ c k, Turns w.heap.size (Ix c k))
    (hit : Yields (n - 1) P gf lb enc I S N) (h0 : ∀ o, I 0 ((w.alloc (.deferred (some []))).alloc o)) (a₁ : Nat → Act)
    (hassign : ∀ (l k : Nat) (W : World) (K : Act → World → Prop), K (a₁ k) W →
      assign.wpIn (Fence.wide.inRound l) (n - 1 - 1) P (Exit.then K (fun _ _ _ => False)) { tmps := (ps.zip (enc k)).foldl (fun t (p, v) => t.setIfInBounds p v) a.tmps, defers := [] } W)
    (hbody : ∀ (l k : Nat) (W : World), I k W → k < N → body.wpIn (Fence.wide.inRound l) (n - 1 - 1) P (roundEnd I Ix N k W) (a₁ k) W)
    (hdone : ∀ (D k : Nat) (W : World), S k → I k W → w.heap.size ≤ D → W.heap[D]? = some (.deferred (some [])) → Q .normal { a with defers := { target := .collected D, args := #[] } :: a.defers } W)
    (hstop : ∀ (D : Nat) (c : Code) (k : Nat) (W : World), Ix c k W → w.heap.size ≤ D → W.heap[D]? = some (.deferred (some [])) → c.wpIn Fence.wide n P Q { a with defers := { target := .collected D, args := #[] } :: a.defers } W) :
    (Code.rangeFunc g ps assign body).wpIn Fence.wide n P Q a w := by
  refine wpIn_rangeFunc fun fn hfn => ?_
  generalize hD : w.heap.size = D at *
  let rec0 : LoopState → Option Code → Loop := fun st pe => { state := st, pending := pe, fn, tmps := a.tmps, params := ps, assign, body, defers := D }
  have r1 : ∀ st pe, ({ rec0 .ready none with state := st, pending := pe } : Loop) = rec0 st pe := fun _ _ => rfl
  generalize hr : rec0 = rc at r1
  obtain ⟨W1, hW1⟩ : ∃ W1, (w.alloc (.deferred (some []))).alloc (.loop (rc .ready none)) = W1 := ⟨_, rfl⟩
  have hL1 : W1.heap[D + 1]? = some (.loop (rc .ready none)) := by
    rw [← hW1, ← hD]; have := World.alloc_heap_new (w.alloc (.deferred (some []))) (.loop (rc .ready none)); rwa [World.size_alloc] at this
  have hK1 : W1.heap[D]? = some (.deferred (some [])) := by
    rw [← hW1, ← hD]; exact (Below.heap_alloc _ _ _ (by simp)).trans (World.alloc_heap_new w _)
  refine ⟨D + 1, [{ target := .collected D, args := #[] }], W1, { target := .fn (.func gf) lb, args := #[.func (.yield (D + 1)) #[] #[]] }, W1, gf,
    #[.func (.yield (D + 1)) #[] #[]] ++ lb, W1, ?_, ?_, fun _ _ => trivial, ?_, fun _ => hn, ?_⟩
  · subst hr; subst hD; rw [← hW1]; exact run_enterLoop_outer _ _ _ _ _
  · simp only [resolve, hg]
    simp [go_sem]
  · simp [invoke, go_sem, eg]
  · -- the loop's record and the block for deferred calls, beside the caller's own
    let Bk : LoopState → Option Code → World → Prop := fun st pe W => W.heap[D + 1]? = some (.loop (rc st pe)) ∧ W.heap[D]? = some (.deferred (some []))
    have hps' : ∀ k, (enc k).size = (rc .ready none).params.size := fun k => by rw [← hr]; exact hps k
    have hst : ∀ st pe, (rc st pe).state = st := fun st pe => by rw [← hr]
    have hpe : ∀ st pe, (rc st pe).pending = pe := fun st pe => by rw [← hr]
    refine (hit (D + 1) (fun k W => I k W ∧ Bk .ready none W) (fun k W => ∃ c, Ix c k W ∧ Bk .done (some c) W) (fun k W h => h.1) ?_ W1 ⟨by rw [← hW1]; exact h0 _, hL1, hK1⟩).mono ?_
    · rintro k W ⟨hi, hl, hk⟩ hlt
      have hy := run_yield (P := P) (args := enc k) hl (hps' k)
      have hbusy : (Instr.beginRound (D + 1)).run P W = .ok () (W.putObj (D + 1) (.loop (rc .busy none))) := by
        have := run_beginRound (P := P) hl (hst _ _)
        rw [this]; subst hr; rfl
      subst hr
      refine ⟨fn, _, assign, body, hy, roundIn_of_wpIn hfn (hassign _ k W _ ⟨_, hbusy, ?_⟩)⟩
      have hsz : D + 1 < W.heap.size := (Array.getElem?_eq_some_iff.1 hl).1
      have hl2 : (W.putObj (D + 1) (.loop (rec0 .busy none))).heap[D + 1]? = some (.loop (rec0 .busy none)) := World.putObj_heap_same hsz
      have hk2 : (W.putObj (D + 1) (.loop (rec0 .busy none))).heap[D]? = some (.deferred (some [])) := (World.putObj_heap_other (by omega)).trans hk
      refine wpIn_mono (hbody _ k _ (hI k _ _ _ _ hi (by omega) hl rfl) hlt) ?_
      have fin : ∀ (jump : Option Code) (W3 : World), KeepsOthers (W.putObj (D + 1) (.loop (rec0 .busy none))) W3 →
          (Instr.endRound (D + 1) jump).run P W3 = .ok (.bool jump.isNone) (W3.putObj (D + 1) (.loop (rec0 (if jump.isNone then .ready else .done) jump))) ∧
          W3.heap[D + 1]? = some (.loop (rec0 .busy none)) ∧ Bk (if jump.isNone then .ready else .done) jump (W3.putObj (D + 1) (.loop (rec0 (if jump.isNone then .ready else .done) jump))) := fun jump W3 hk3 => by
        have hl3 := hk3.same _ _ hl2 rfl
        exact ⟨run_endRound (P := P) jump hl3, hl3, World.putObj_heap_same (Array.getElem?_eq_some_iff.1 hl3).1, (World.putObj_heap_other (by omega)).trans (hk3.same _ _ hk2 rfl)⟩
      rintro e a3 W3 hp
      cases e with
      | normal =>
        obtain ⟨hk3, hlt', hi3⟩ := hp
        obtain ⟨hrun, hl3, hbk⟩ := fin none W3 hk3
        exact ⟨_, _, hrun, .inl ⟨rfl, hlt', hI _ _ _ _ _ hi3 (by omega) hl3 rfl, hbk⟩⟩
      | ret =>
        obtain ⟨hk3, hi3⟩ := hp
        obtain ⟨hrun, hl3, hbk⟩ := fin (some .ret) W3 hk3
        exact ⟨_, _, hrun, .inr ⟨rfl, .ret, hIx _ _ _ _ _ _ hi3 (by omega) hl3 rfl, hbk⟩⟩
      | exit id =>
        obtain ⟨hk3, hi3⟩ := hp
        obtain ⟨hrun, hl3, hbk⟩ := fin (some (.exit id)) W3 hk3
        exact ⟨_, _, hrun, .inr ⟨rfl, .exit id, hIx _ _ _ _ _ _ hi3 (by omega) hl3 rfl, hbk⟩⟩
      | goto t =>
        obtain ⟨hk3, hi3⟩ := hp
        obtain ⟨hrun, hl3, hbk⟩ := fin (some (.goto t)) W3 hk3
        exact ⟨_, _, hrun, .inr ⟨rfl, .goto t, hIx _ _ _ _ _ _ hi3 (by omega) hl3 rfl, hbk⟩⟩
      | panic ch => exact hp.elim
      | outgrown => exact hp.elim
    · rintro r W2 ⟨⟨v, rfl⟩, (⟨k, hS, hi, hl, hk⟩ | ⟨k, c, hi, hl, hk⟩)⟩
      · have he := run_endLoop (P := P) hl (by rw [hst]; simp)
        rw [hpe] at he
        exact ⟨none, _, he, hdone D k _ hS (hI _ _ _ _ _ hi (by omega) hl rfl) (by omega) ((World.putObj_heap_other (by omega)).trans hk)⟩
      · have he := run_endLoop (P := P) hl (by rw [hst]; simp)
        rw [hpe] at he
        exact ⟨some c, _, he, hstop D c k _ (hIx _ _ _ _ _ _ hi (by omega) hl rfl) (by omega) ((World.putObj_heap_other (by omega)).trans hk)⟩

theorem Boxed.turn {W : World} {B : Nat} {t : TypeId} {v : Value} (h : Boxed W B t v) {l : Nat} {o : Obj} (o' : Obj) (hl : W.heap[l]? = some o) (ho : o.isCells = false) : Boxed (W.putObj l o') B t v :=
  (World.putObj_heap_other (fun e => by subst e; rw [show W.heap[B]? = _ from h] at hl; cases hl; cases ho)).trans h
theorem below_turn {B : Nat} {w W : World} (h : Below B w W) {l : Nat} {o : Obj} (o' : Obj) (hl : W.heap[l]? = some o) (hB : B ≤ w.heap.size) (hle : B ≤ l) : Below B w (W.putObj l o') :=
  h.grown (grownBy_putObj' W l o') (Nat.le_trans hB h.size) (fun k e => by cases e; exact hle)

attribute [local go_sem] Oper.semAt_some
set_option maxHeartbeats 4000000 in
theorem back_seq (n : Nat) (hn : 2 ≤ n) (A : Option Addr) (c k0 : Nat) (g : List Int) (l b : Nat) (hk0 : g.length = k0) (hg : k0 ≤ 1099511627776)
    (J Jx : Nat → World → Prop) (hbox : ∀ k W, J k W → Boxed W b 78 (.slice A k0 c) ∧ Rd .u32 W A g)
    (hY : ∀ k W1, J k W1 → k < k0 → YieldAt Fence.wide (n - 1) Tryz.prog l #[.int .i64 (((k0 - 1 - k : Nat)) : Int), .int .u32 (g.getD (k0 - 1 - k) 0)] W1 fun r W' =>
      (r = .returned (.bool true) ∧ k + 1 ≤ k0 ∧ J (k + 1) W') ∨ (r = .returned (.bool false) ∧ Jx (k + 1) W'))
    (W : World) (h0 : J 0 W) :
    CallsIn Fence.wide n Tryz.prog 133 #[.func (.yield l) #[] #[], .pointer (some ⟨b, 0, none⟩)] W fun r W' => (∃ v, r = .returned v) ∧
      ((∃ k, k = k0 ∧ J k W') ∨ (∃ k, Jx k W')) := by
  have HY := Lib.hid hY
  have HB := Lib.hid hbox
  have HK := Lib.hid hk0
  have bx := (HB.out 0 W h0).1
  have c0 := Boxed.cell bx
  clear hY hbox hk0 bx
  refine callsIn_of_wp Tryz.func133 rfl trivial ?_ rfl
  simp only [Tryz.ntmps133, List.size_toArray, List.length_cons, List.length_nil, Nat.reduceAdd, Nat.reduceSub, Array.replicate_succ, Array.replicate_zero, List.push_toArray, List.append_toArray, List.nil_append, List.cons_append]
  gi_wp2
  gi_loopw [3] (fun i wr => ∃ k : Nat, i = .int .i64 ((k0 : Int) - 1 - k) ∧ k ≤ k0 ∧ J k wr) (fun i _ => (intOf i + 1).toNat)
  case atStart => exact ⟨0, by simp, Nat.zero_le _, h0⟩
  case round =>
    obtain ⟨k, rfl, hk, hj⟩ := hrel
    obtain ⟨bx, rd⟩ := HB.out k wr hj
    clear c0
    have c0 := Boxed.cell bx
    clear bx
    by_cases hlt : k < k0
    · obtain ⟨x, hx⟩ : ∃ x, g[k0 - 1 - k]? = some x := ⟨_, List.getElem?_eq_getElem (by rw [HK.out]; omega)⟩
      obtain ⟨ba, o, rfl, hc⟩ := rd (by rintro rfl; simp at hx)
      have hck := hc _ x hx
      have hy := HY.out k wr hj hlt
      have hgd : g.getD (k0 - 1 - k) 0 = x := by rw [List.getD_eq_getElem?_getD, hx]; rfl
      rw [hgd] at hy
      obtain ⟨fn, tmps, assign, body, hy, hR⟩ := hy
      obtain ⟨j, hjj⟩ : ∃ j : Nat, k0 - 1 - k = j := ⟨_, rfl⟩
      have hji : (k0 : Int) - 1 - k = j := by omega
      have hjk : (j : Int) < k0 := by omega
      rw [hjj] at hck hy
      clear hc hx hgd rd
      gi_wp2
      refine ⟨fun _ => by omega, hR.mono ?_⟩
      rintro r W' (⟨rfl, hk', hj'⟩ | ⟨rfl, hj'⟩)
      · gi_wp2
        go_roundw
        case rel => exact ⟨k + 1, by congr 1; omega, hk', hj'⟩
        case measure => simp [intOf]; omega
      · gi_wp2
        refine bodyPost_ret (results_none rfl _ _ _) rfl ?_
        exact ⟨⟨_, rfl⟩, .inr ⟨_, hj'⟩⟩
    · obtain rfl : k = k0 := by omega
      have hz : (k : Int) - 1 - k = -1 := by omega
      gi_wp2
      go_end0
      exact ⟨⟨_, rfl⟩, .inl ⟨k, rfl, hj⟩⟩
end Go.Proofs.YtfcfejlffmddnaaGreatDoor
end
