/- Package nat, its reference and its laws' helpers, part 4 (NU NV NW NX NY NZ NBA). -/
import Derived.Laws.IdiomCopy
import Derived.Test.YtfcfejlffmddnaaGreatDoorM03
section
/- Plain laws: the estimate of a digit. -/
namespace Go.Proofs.YtfcfejlffmddnaaGreatDoor
set_option linter.unusedSimpArgs false
set_option linter.unusedVariables false

theorem take_bounds {l : List Int} (h : dgs l) (m : Nat) : 0 ≤ vl (l.take m) ∧ vl (l.take m) < BB m := by
  refine ⟨vl_nonneg (dgs_take h m), Int.lt_of_lt_of_le (vl_lt (dgs_take h m)) (BB_le ?_)⟩
  rw [List.length_take]; omega
/-- What the first digits say: `m` digits are cut. -/
structure Tops (R y W top D1 r2 D2 : Int) : Prop where
  w : 0 < W
  r0 : (top * 4294967296 + r2) * W ≤ R
  r1 : R < (top * 4294967296 + r2 + 1) * W
  y0 : (D1 * 4294967296 + D2) * W ≤ y
  y1 : y < (D1 * 4294967296 + D2 + 1) * W
  a0 : 0 ≤ r2
  a1 : r2 < 4294967296
  b0 : 0 ≤ D2
  b1 : D2 < 4294967296
  d0 : 1 ≤ D1
  d1 : D1 < 4294967296
  t0 : 0 ≤ top
  yB : R < y * 4294967296
theorem Tops.of {r : List Int} {y : Nat} {m : Nat} (hr : dgs r) (hN : r.length = m + 3) (hy : (dg y).length = m + 2) (hlt : vl r < (y : Int) * 4294967296) :
    Tops (vl r) y (BB m) (r.getD (m + 2) 0 * 4294967296 + r.getD (m + 1) 0) ((dg y).getD (m + 1) 0) (r.getD m 0) ((dg y).getD m 0) := by
  have e1 : vl r = vl (r.take m) + BB m * ((r.getD (m + 2) 0 * 4294967296 + r.getD (m + 1) 0) * 4294967296 + r.getD m 0) := by
    rw [← vl_take_all r (m + 3) (by omega), vl_take_succ, vl_take_succ, vl_take_succ, BB_succ (m + 1), BB_succ m]; generalize r.getD (m + 2) 0 = a, r.getD (m + 1) 0 = b, r.getD m 0 = c, BB m = W, vl (r.take m) = v; grind
  have e2 : (y : Int) = vl ((dg y).take m) + BB m * ((dg y).getD (m + 1) 0 * 4294967296 + (dg y).getD m 0) := by
    conv => lhs; rw [← vl_dg y, ← vl_take_all (dg y) (m + 2) (by omega), vl_take_succ, vl_take_succ, BB_succ]
    generalize (dg y).getD (m + 1) 0 = b, (dg y).getD m 0 = c, BB m = W, vl ((dg y).take m) = v; grind
  obtain ⟨p1, p2⟩ := take_bounds hr m
  obtain ⟨p3, p4⟩ := take_bounds (dgs_dg y) m
  obtain ⟨a0, a1⟩ := dgs_getD hr m
  obtain ⟨a2, a3⟩ := dgs_getD hr (m + 1)
  obtain ⟨a4, a5⟩ := dgs_getD hr (m + 2)
  obtain ⟨b0, b1⟩ := dgs_getD (dgs_dg y) m
  obtain ⟨b2, b3⟩ := dgs_getD (dgs_dg y) (m + 1)
  have hD : (dg y).getD (m + 1) 0 ≠ 0 := by
    intro h
    have := last_dg y
    rw [List.getLast?_eq_getElem?, hy] at this
    rw [List.getD_eq_getElem?_getD] at h
    have h2 : (dg y)[m + 1]? = some ((dg y)[m + 1]'(by omega)) := List.getElem?_eq_getElem _
    rw [h2] at h
    apply this
    show (dg y)[m + 1]? = some 0
    rw [h2]; exact congrArg some h
  refine ⟨BB_pos m, ?_, ?_, ?_, ?_, a0, a1, b0, b1, by omega, b3, by omega, hlt⟩
  · rw [e1, Int.mul_comm]; omega
  · rw [e1, Int.add_mul _ 1 (BB m), Int.one_mul, Int.mul_comm]; omega
  · rw [e2, Int.mul_comm]; omega
  · rw [e2, Int.add_mul _ 1 (BB m), Int.one_mul, Int.mul_comm]; omega
/-- The border of the estimate's loop. -/
structure EstInv (R y top D1 q rr : Int) : Prop where
  q0 : 0 ≤ q
  q1 : q < 4294967296
  rest : rr = top - q * D1
  r0 : 0 ≤ rr
  r1 : rr < 8589934592
  up : R < (q + 1) * y
theorem EstInv.start {R y W top D1 r2 D2 : Int} (T : Tops R y W top D1 r2 D2) (q : Int) (hq : q = min (top / D1) 4294967295) : EstInv R y top D1 q (top - q * D1) := by
  obtain ⟨w, r0, r1, y0, y1, a0, a1, b0, b1, d0, d1, t0, yB⟩ := T
  have hdiv := Int.emod_add_mul_ediv top D1
  have hm0 := Int.emod_nonneg top (show D1 ≠ 0 by omega)
  have hm1 := Int.emod_lt_of_pos top (show 0 < D1 by omega)
  have hd0 : 0 ≤ top / D1 := Int.ediv_nonneg t0 (by omega)
  have hq0 : 0 ≤ q := by omega
  have hle : q * D1 ≤ top / D1 * D1 := Int.mul_le_mul_of_nonneg_right (by omega) (by omega)
  rw [Int.mul_comm (top / D1)] at hle
  refine ⟨hq0, by omega, rfl, by omega, ?_, ?_⟩
  · rcases Int.lt_or_le 4294967295 (top / D1) with h | h
    · have hq2 : q = 4294967295 := by omega
      -- top is below D1 * B + D2 + 1
      have h1 : top < (D1 * 4294967296 + D2) + 1 := by
        have h2 : (top * 4294967296) * W ≤ R := by
          have := Int.mul_nonneg a0 (Int.le_of_lt w)
          rw [Int.add_mul] at r0; omega
        have h3 : (top * 4294967296) * W < ((D1 * 4294967296 + D2 + 1) * W) * 4294967296 := by omega
        have h4 : ((D1 * 4294967296 + D2 + 1) * W) * 4294967296 = ((D1 * 4294967296 + D2 + 1) * 4294967296) * W := by grind
        rw [h4] at h3
        have := Int.lt_of_mul_lt_mul_right h3 (Int.le_of_lt w)
        omega
      rw [hq2]; omega
    · have hq2 : q = top / D1 := by omega
      rw [hq2, Int.mul_comm]; omega
  · rcases Int.lt_or_le 4294967295 (top / D1) with h | h
    · have hq2 : q + 1 = 4294967296 := by omega
      rw [hq2, Int.mul_comm]; exact yB
    · have hq2 : q = top / D1 := by omega
      refine Int.not_le.1 fun hc => ?_
      have hW : 0 < 4294967296 * W := by omega
      have h1 : D1 * (4294967296 * W) ≤ y := by
        have := Int.mul_nonneg b0 (Int.le_of_lt w)
        rw [Int.add_mul] at y0
        have h2 : D1 * (4294967296 * W) = D1 * 4294967296 * W := by grind
        omega
      have h2 : R < (top + 1) * (4294967296 * W) := by
        have h3 : (top * 4294967296 + r2 + 1) * W ≤ ((top + 1) * 4294967296) * W := Int.mul_le_mul_of_nonneg_right (by omega) (Int.le_of_lt w)
        have h4 : ((top + 1) * 4294967296) * W = (top + 1) * (4294967296 * W) := by grind
        omega
      have h3 := est_low hW h1 h2 (by omega) hc
      rw [hq2, Int.add_mul, Int.one_mul, Int.mul_comm] at h3
      omega
theorem EstInv.step {R y W top D1 r2 D2 q rr : Int} (T : Tops R y W top D1 r2 D2) (h : EstInv R y top D1 q rr) (hr : rr < 4294967296) (hc : rr * 4294967296 + r2 < q * D2) : 0 < q ∧ EstInv R y top D1 (q - 1) (rr + D1) := by
  obtain ⟨w, r0, r1, y0, y1, a0, a1, b0, b1, d0, d1, t0, yB⟩ := T
  obtain ⟨h1, h2, h3, h4, h5, h6⟩ := h
  have hq : 0 < q := by
    refine Int.not_le.1 fun hn => ?_
    have : q = 0 := by omega
    rw [this, Int.zero_mul] at hc; omega
  refine ⟨hq, by omega, by omega, by rw [h3, Int.sub_mul]; omega, by omega, by omega, ?_⟩
  refine Int.not_le.1 fun hn => ?_
  rw [Int.sub_add_cancel] at hn
  have h7 := est_low w y0 r1 h1 hn
  rw [Int.mul_add, ← Int.mul_assoc] at h7
  omega
theorem EstInv.fin {R y W top D1 r2 D2 q rr : Int} (T : Tops R y W top D1 r2 D2) (h : EstInv R y top D1 q rr) (hR : 0 ≤ R) (hc : 4294967296 ≤ rr ∨ q * D2 ≤ rr * 4294967296 + r2) : (q - 1) * y ≤ R := by
  obtain ⟨w, r0, r1, y0, y1, a0, a1, b0, b1, d0, d1, t0, yB⟩ := T
  obtain ⟨h1, h2, h3, h4, h5, h6⟩ := h
  rcases Int.lt_or_le 0 q with hq | hq
  · refine est_high w y1 r0 hq ?_ (by omega)
    rw [Int.mul_add, ← Int.mul_assoc]
    have h7 : q * D2 ≤ 18446744065119617025 := (mul_lt_BB h1 h2 b0 b1).2
    rcases hc with hc | hc <;> omega
  · have hq0 : q = 0 := by omega
    have : 0 ≤ y := by
      have := Int.mul_nonneg (show 0 ≤ D1 * 4294967296 + D2 by omega) (Int.le_of_lt w)
      omega
    rw [hq0]; omega
/-- What the estimate hands back. -/
theorem est_end {R y Bn q R' out c : Int} (hy : 0 < y) (hyB : y ≤ Bn) (h1 : R < (q + 1) * y) (h2 : (q - 1) * y ≤ R) (hR0 : 0 ≤ R) :
    (¬ R < q * y → R' = R - q * y → R = q * y + R' ∧ 0 ≤ R' ∧ R' < y) ∧
    (R < q * y → R' = R - q * y + Bn → 0 ≤ out → out < Bn → out + Bn * c = R' + y → 0 ≤ c → c ≤ 1 → R = (q - 1) * y + out ∧ out < y ∧ 1 ≤ q) := by
  have e1 : (q + 1) * y = q * y + y := by rw [Int.add_mul, Int.one_mul]
  have e2 : (q - 1) * y = q * y - y := by rw [Int.sub_mul, Int.one_mul]
  refine ⟨fun h3 h4 => by omega, fun h3 h4 h5 h6 h7 h8 h9 => ?_⟩
  have hq : 1 ≤ q := by
    refine Int.not_lt.1 fun hn => ?_
    have : q * y ≤ 0 * y := Int.mul_le_mul_of_nonneg_right (by omega) (by omega)
    omega
  have : c = 0 ∨ c = 1 := by omega
  rcases this with rfl | rfl
  · rw [Int.mul_zero] at h7; omega
  · rw [Int.mul_one] at h7; omega
end Go.Proofs.YtfcfejlffmddnaaGreatDoor
end
section
/- Contracts: estimate. -/
namespace Go.Proofs.YtfcfejlffmddnaaGreatDoor
open Go.RowKit
set_option linter.unusedSimpArgs false
set_option linter.unusedVariables false

theorem Wr.rdd {w : World} {g o : Nat} {r : List Int} (h : Wr w g o r) (j : Nat) (x : Int) (hj : j < r.length) (hx : r.getD j 0 = x) : w.cell? ⟨g, o + j, none⟩ = some (.int .u32 x) :=
  (h j x (by rw [List.getElem?_eq_getElem hj, ← hx, List.getD_eq_getElem?_getD, List.getElem?_eq_getElem hj]; rfl)).1
theorem Rd.rdd {w : World} {b o : Nat} {r : List Int} (h : Rd .u32 w (some ⟨b, o, none⟩) r) (j : Nat) (x : Int) (hj : j < r.length) (hx : r.getD j 0 = x) : w.cell? ⟨b, o + j, none⟩ = some (.int .u32 x) :=
  h.at j x (by rw [List.getElem?_eq_getElem hj, ← hx, List.getD_eq_getElem?_getD, List.getElem?_eq_getElem hj]; rfl)

set_option maxRecDepth 10000 in
set_option maxHeartbeats 2000000 in
theorem estimate_calls (g o c N : Nat) (r : List Int) (b2 o2 k2 c2 y m : Nat) (w : World) (hN : Hid (r.length = N)) (hNb : N ≤ 1099511627776) (hm : Hid (N = m + 3)) (hr : Hid (dgs r)) (hW : Hid (Wr w g o r)) (h2 : Hid (Rd .u32 w (some ⟨b2, o2, none⟩) (dg y))) (hk : Hid ((dg y).length = k2)) (hkm : Hid (k2 = m + 2)) (hg : Hid (b2 ≠ g)) (hlt : Hid (vl r < (y : Int) * 4294967296)) :
    Calls Tryz.prog 118 #[.slice (some ⟨g, o, none⟩) N c, .slice (some ⟨b2, o2, none⟩) k2 c2] w fun e w' => ∃ (q : Int) (r' : List Int), e = .returned (.int .u32 q) ∧ 0 ≤ q ∧ q < 4294967296 ∧ Only w w' g o N ∧ Wr w' g o r' ∧ r'.length = N ∧ dgs r' ∧ vl r = q * y + vl r' ∧ vl r' < y := by
  have T := Tops.of hr.out (by rw [hN.out, hm.out]) (by rw [hk.out, hkm.out]) hlt.out
  obtain ⟨ra, hra⟩ : ∃ z, r.getD (m + 2) 0 = z := ⟨_, rfl⟩
  obtain ⟨rb, hrb⟩ : ∃ z, r.getD (m + 1) 0 = z := ⟨_, rfl⟩
  obtain ⟨rc, hrc⟩ : ∃ z, r.getD m 0 = z := ⟨_, rfl⟩
  obtain ⟨da, hda⟩ : ∃ z, (dg y).getD (m + 1) 0 = z := ⟨_, rfl⟩
  obtain ⟨db, hdb⟩ : ∃ z, (dg y).getD m 0 = z := ⟨_, rfl⟩
  obtain ⟨a0, a1⟩ := dgs_getD hr.out (m + 2)
  obtain ⟨a2, a3⟩ := dgs_getD hr.out (m + 1)
  rw [hra] at a0 a1
  rw [hrb] at a2 a3
  rw [hra, hrb, hrc, hda, hdb] at T
  have hN' := hN.out
  have hm' := hm.out
  have hk' := hk.out
  have hkm' := hkm.out
  have ha : w.cell? ⟨g, o + k2, none⟩ = some (.int .u32 ra) := hW.out.rdd k2 ra (by omega) (by rw [hkm']; exact hra)
  obtain ⟨k1, hk1⟩ : ∃ k : Nat, (k2 : Int) - 1 = k := ⟨m + 1, by omega⟩
  obtain ⟨k0, hk0⟩ : ∃ k : Nat, (k2 : Int) - 2 = k := ⟨m, by omega⟩
  have hk1m : k1 = m + 1 := by omega
  have hk0m : k0 = m := by omega
  have hb : ∀ n, (w.drewN n).cell? ⟨g, o + k1, none⟩ = some (.int .u32 rb) := fun n => (hW.out.drewN n).rdd k1 rb (by omega) (by rw [hk1m]; exact hrb)
  have hc : ∀ n, (w.drewN n).cell? ⟨g, o + k0, none⟩ = some (.int .u32 rc) := fun n => (hW.out.drewN n).rdd k0 rc (by omega) (by rw [hk0m]; exact hrc)
  have hd : ∀ n, (w.drewN n).cell? ⟨b2, o2 + k1, none⟩ = some (.int .u32 da) := fun n => (h2.out.drewN n).rdd k1 da (by omega) (by rw [hk1m]; exact hda)
  have he : ∀ n, (w.drewN n).cell? ⟨b2, o2 + k0, none⟩ = some (.int .u32 db) := fun n => (h2.out.drewN n).rdd k0 db (by omega) (by rw [hk0m]; exact hdb)
  have hb0 : w.cell? ⟨g, o + k1, none⟩ = some (.int .u32 rb) := hb 0
  have hi1 : (k2 : Int) < (N : Int) := by omega
  have hi2 : (k1 : Int) < (N : Int) := by omega
  have hi3 : (k0 : Int) < (N : Int) := by omega
  have hi4 : (k1 : Int) < (k2 : Int) := by omega
  have hi5 : (k0 : Int) < (k2 : Int) := by omega
  have hor := or_shl32' rb ra a2 a3 a0 a1
  obtain ⟨top, htop⟩ : ∃ t, rb + ra * 4294967296 = t := ⟨_, rfl⟩
  rw [htop] at hor
  have htop2 : ra * 4294967296 + rb = top := by omega
  rw [htop2] at T
  have t0 : 0 ≤ top := by omega
  have t1 : top ≤ 18446744073709551615 := by omega
  have ds := T.d0
  have dl := T.d1
  have HT := Lib.hid T
  have HB0 := Lib.hid hb
  have HC0 := Lib.hid hc
  have HD0 := Lib.hid hd
  have HE0 := Lib.hid he
  have hsl : IntKind.u64.wrap (ra * 4294967296) = ra * 4294967296 := by rw [IntKind.wrap_u64]; omega
  clear hra hrb hrc hda hdb hN' hm' hk' hkm' htop htop2 hb hc hd he hk1m hk0m T
  go_enter Tryz.func118, Tryz.ntmps118
  go_wp2_with fail
  go_quiet (fail)
  clear hb0 ha
  have hd1 := HD0.out nq
  obtain ⟨tq, htq⟩ : ∃ t, top / da = t := ⟨_, rfl⟩
  obtain ⟨q0, hq0⟩ : ∃ t, min tq 4294967295 = t := ⟨_, rfl⟩
  have hst := EstInv.start HT.out q0 (by rw [htq, hq0])
  have HST := Lib.hid hst
  have z1 := hst.q0
  have z2 := hst.q1
  have z3 := hst.r0
  have z4 := hst.r1
  clear hst
  obtain ⟨rr, hrr⟩ : ∃ t, top - q0 * da = t := ⟨_, rfl⟩
  rw [hrr] at z3 z4 HST
  have hqd : q0 * da ≤ 18446744065119617025 := (mul_lt_BB z1 z2 (by omega) dl).2
  have hqd0 : 0 ≤ q0 * da := (mul_lt_BB z1 z2 (by omega) dl).1
  have hw1 : IntKind.u64.wrap (q0 * da) = q0 * da := by rw [IntKind.wrap_u64]; omega
  have hw2 : IntKind.u64.wrap (top - q0 * da) = rr := by rw [IntKind.wrap_u64]; omega
  go_upto_block 0 with fail
  go_cut [7] (fun v7 wc => ∃ q : Int, v7 = .int .u64 q ∧ 0 ≤ q ∧ q < 4294967296 ∧ Hid (vl r < (q + 1) * y) ∧ Hid ((q - 1) * y ≤ vl r) ∧ ∃ n, wc = w.drewN n)
  case first =>
    have hfinr : ∀ nn : Nat, ∀ q rr : Int, EstInv (vl r) y top da q rr → (4294967296 ≤ rr ∨ q * db ≤ rr * 4294967296 + rc) → ∃ q' : Int, Value.int IntKind.u64 q = Value.int .u64 q' ∧ 0 ≤ q' ∧ q' < 4294967296 ∧ Hid (vl r < (q' + 1) * y) ∧ Hid ((q' - 1) * y ≤ vl r) ∧ ∃ n, w.drewN nn = w.drewN n := fun nn q rr he hc => ⟨q, rfl, he.q0, he.q1, Lib.hid he.up, Lib.hid (he.fin HT.out (vl_nonneg hr.out) hc), nn, rfl⟩
    have HF := Lib.hid hfinr
    clear hfinr hw1 hw2 hrr hqd hqd0 hq0 htq hd1 z1 z2 z3 z4
    go_wp2_with fail
    go_loopw [7, 8] (fun v7 v8 wr => ∃ (q rr : Int) (n : Nat), v7 = .int .u64 q ∧ v8 = .int .u64 rr ∧ Hid (EstInv (vl r) y top da q rr) ∧ wr = w.drewN n) (fun v7 v8 wr => (intOf v7).toNat)
    case atStart => exact ⟨q0, rr, nq, rfl, rfl, HST, rfl⟩
    case round =>
      obtain ⟨q, rr, nn, rfl, rfl, HE, rfl⟩ := hrel
      have h1 := HE.out.q0
      have h2 := HE.out.q1
      have h3 := HE.out.r0
      have h4 := HE.out.r1
      have c1 := HC0.out
      have c2 := HD0.out
      have c3 := HE0.out
      obtain ⟨P, hP⟩ : ∃ P, q * db = P := ⟨_, rfl⟩
      have hPb := mul_lt_BB h1 h2 HT.out.b0 HT.out.b1
      rw [hP] at hPb
      have hwP : IntKind.u64.wrap (q * db) = P := by rw [IntKind.wrap_u64]; omega
      have g0 := HT.out.a0
      have g1 := HT.out.a1
      have g2 := HT.out.b0
      have g3 := HT.out.b1
      have HP := Lib.hid hP
      obtain ⟨p1, p2⟩ := hPb
      clear hP
      rcases Int.lt_or_le rr 4294967296 with hlt1 | hlt1
      · have hwR : IntKind.u64.wrap (rr * 4294967296) = rr * 4294967296 := by rw [IntKind.wrap_u64]; omega
        have hor2 := or_shl32' rc rr g0 g1 h3 hlt1
        obtain ⟨S, hS⟩ : ∃ S, rc + rr * 4294967296 = S := ⟨_, rfl⟩
        rw [hS] at hor2
        have HS := Lib.hid hS
        clear hS
        rcases Int.lt_or_le S P with hlt2 | hlt2
        · obtain ⟨st1, st2⟩ := HE.out.step HT.out hlt1 (by rw [HP.out]; have := HS.out; omega)
          have HE2 := Lib.hid st2
          have hwq : IntKind.u64.wrap (q - 1) = q - 1 := by rw [IntKind.wrap_u64]; omega
          have hwr : IntKind.u64.wrap (rr + da) = rr + da := by rw [IntKind.wrap_u64]; omega
          clear st2
          go_wp2_with fail
          go_quiet (fail)
          go_wp2_with fail
          exact ⟨⟨_, _, _, rfl, rfl, HE2, rfl⟩, by simp [intOf]; omega⟩
        · have hd1 : decide (S < P) = false := by simp; omega
          go_wp2_with fail
          go_quiet (fail)
          go_wp2_with fail
          go_meet
          case rel => rw [World.drewN_drewN]; exact HF.out _ q rr HE.out (.inr (by rw [HP.out]; have := HS.out; omega))
      · have hd1 : decide (rr < 4294967296) = false := by simp; omega
        go_wp2_with fail
        go_quiet (fail)
        go_wp2_with fail
        go_meet
        case rel => rw [World.drewN_drewN]; exact HF.out _ q rr HE.out (.inl hlt1)
  case rest =>
    clear z1 z2
    obtain ⟨q, rfl, z1, z2, HU, HL, nn, rfl⟩ := hcut
    have hW' : Wr (w.drewN nn) g o r := hW.out.drewN nn
    have h2' : Rd .u32 (w.drewN nn) (some ⟨b2, o2, none⟩) (dg y) := h2.out.drewN nn
    have hg' : ∀ a : Addr, some (⟨b2, o2, none⟩ : Addr) = some a → a.block ≠ g := fun a ha => by injection ha with ha; subst ha; exact hg.out
    have hyp : (0 : Int) < y := by
      have := (dg_len_lt y 0).1 (by rw [hk.out, hkm.out]; omega)
      rw [BB_zero] at this; omega
    have hyB : (y : Int) ≤ BB N := by
      have := (dg_len_le y N).1 (by rw [hk.out, hkm.out, hm.out]; omega)
      omega
    have HW' := Lib.hid hW'
    have H2' := Lib.hid h2'
    have HG' := Lib.hid hg'
    have HYP := Lib.hid hyp
    have HYB := Lib.hid hyB
    have hlen : k2 < N := by have := hkm.out; have := hm.out; omega
    have hnil := vl_nonneg hr.out
    have HNN := Lib.hid hnil
    clear hW' h2' hg' hyp hyB hnil hor hsl HST HT HB0 HC0 HD0 HE0 hd1 htq hq0 hw1 hw2 hrr hqd hqd0 z3 z4
    go_wp2_with fail
    refine (takes_calls g o c N r (some ⟨b2, o2, none⟩) k2 c2 y q _ hN hNb hr HW' H2' hk hlen HG' z1 z2).mono ?_
    rintro e w1 ⟨b, r1, rfl, HO1, HW1, hl1, hd1, hv1, hb1⟩
    have E := est_end (R' := vl r1) (out := 0) (c := 0) HYP.out HYB.out HU.out HL.out HNN.out
    cases b with
    | false =>
      have hnlt : ¬ vl r < q * y := by simpa using hb1.symm
      obtain ⟨f1, f2, f3⟩ := E.1 hnlt (by simpa using hv1)
      have HF := Lib.hid (And.intro HO1 (And.intro HW1 (And.intro hl1 (And.intro hd1 (And.intro f1 f3)))))
      clear E hnlt f1 f2 f3 HO1 HW1 hl1 hd1 hv1 hb1
      go_wp2_with fail
      go_ret
      obtain ⟨g1, g2, g3, g4, g5, g6⟩ := HF.out
      exact ⟨q, r1, rfl, z1, z2, ⟨g1.os, g1.tape, g1.output, g1.size, g1.block, g1.cell, g1.frozen⟩, g2, g3, g4, g5, g6⟩
    | true =>
      have hll : vl r < q * y := by simpa using hb1
      have hq1 : 1 ≤ q := by
        refine Int.not_lt.1 fun hn => ?_
        have h0 : q = 0 := by omega
        have := HNN.out
        rw [h0, Int.zero_mul] at hll; omega
      have hwq : IntKind.u64.wrap (q - 1) = q - 1 := by rw [IntKind.wrap_u64]; omega
      have HLL := Lib.hid hll
      have HV1 := Lib.hid hv1
      have HOO : Hid (Only w w1 g o N) := Lib.hid ⟨HO1.os, HO1.tape, HO1.output, HO1.size, HO1.block, HO1.cell, HO1.frozen⟩
      have HWW := Lib.hid HW1
      have HL1 := Lib.hid hl1
      have HD1 := Lib.hid hd1
      clear E hll hv1 HO1 HW1 hl1 hd1 hb1
      go_wp2_with fail
      go_loopw [9, 85] (fun v9 v85 wr => ∃ (i : Nat) (out : List Int) (cy : Int), i ≤ N ∧ v85 = .int .i64 i ∧ v9 = .int .u64 cy ∧ 0 ≤ cy ∧ cy ≤ 1 ∧ Hid (AddInv r1 (dg y) i out cy) ∧ Hid (Wr wr g o (out ++ r1.drop i)) ∧ Hid (Only w wr g o N)) (fun v9 v85 wr => N - (intOf v85).toNat)
      case atStart => exact ⟨0, [], 0, Nat.zero_le _, rfl, rfl, by omega, by omega, Lib.hid (AddInv.start _ _), HWW, HOO⟩
      case round =>
        obtain ⟨i, out, cy, hi, rfl, rfl, cy0, cy1, HA, HW2, HO2⟩ := hrel
        by_cases hltN : i < N
        · obtain ⟨xi, hxi⟩ : ∃ z, r1.getD i 0 = z := ⟨_, rfl⟩
          obtain ⟨yi, hyi⟩ : ∃ z, (dg y).getD i 0 = z := ⟨_, rfl⟩
          obtain ⟨x0, x1⟩ := dgs_getD HD1.out i
          obtain ⟨y0, y1⟩ := dgs_getD (dgs_dg y) i
          rw [hxi] at x0 x1
          rw [hyi] at y0 y1
          have hcc : ∀ n, (wr.drewN n).cell? ⟨g, o + i, none⟩ = some (.int .u32 xi) := fun n => ((HW2.out.drewN n) i xi (by
            have h := part_get out r1 (by rw [HA.out.len, HL1.out]; exact hltN)
            rw [HA.out.len, hxi] at h; exact h)).1
          have hcf : ∀ n, (wr.drewN n).frozen? ⟨g, o + i, none⟩ = false := fun n => ((HW2.out.drewN n) i xi (by
            have h := part_get out r1 (by rw [HA.out.len, HL1.out]; exact hltN)
            rw [HA.out.len, hxi] at h; exact h)).2
          have hcc0 : wr.cell? ⟨g, o + i, none⟩ = some (.int .u32 xi) := hcc 0
          obtain ⟨s, hs⟩ : ∃ s, cy + (xi + yi) = s := ⟨_, rfl⟩
          have s0 : 0 ≤ s := by omega
          have s1 : s ≤ 8589934591 := by omega
          have hmw : IntKind.u64.wrap (xi + yi) = xi + yi := by rw [IntKind.wrap_u64]; omega
          have hsw : IntKind.u64.wrap (cy + (xi + yi)) = s := by rw [IntKind.wrap_u64]; omega
          have hA := AddInv.step HD1.out (dgs_dg y) HA.out s (by rw [hxi, hyi, ← hs])
          have hw : ∀ n v, Wr (Go.World.setCell (wr.drewN n) ⟨g, o + i, none⟩ (.int .u32 v)) g o ((out ++ [v]) ++ r1.drop (i + 1)) := fun n v => by
            have := (HW2.out.drewN n).set i v
            rw [← HA.out.len, part_set out r1 v (by rw [HA.out.len, HL1.out]; exact hltN), HA.out.len] at this
            exact this
          have ho : ∀ n v, Only w (Go.World.setCell (wr.drewN n) ⟨g, o + i, none⟩ v) g o N := fun n v => (HO2.out.drewN n).set i hltN v
          have hrd : ∀ n, Rd .u32 (wr.drewN n) (some ⟨b2, o2, none⟩) (dg y) := fun n => (HO2.out.rd h2.out (fun a ha => by injection ha with ha; subst ha; exact hg.out)).drewN n
          have HAS := Lib.hid hA
          have HWS := Lib.hid hw
          have HOS := Lib.hid ho
          have HY := Lib.hid hyi
          have HR := Lib.hid hrd
          have HSM := Lib.hid hs
          have hiN : (i : Int) < N := by omega
          clear hA hw ho hxi hyi hrd hs
          go_wp2_with fail
          go_quiet ((go_at_call 102; exact Calls.quiet_of_same ((at_num _ c2 k2 y i _ yi hk (by omega) (by omega) (HR.out _) HY).mono (by rintro e w' ⟨rfl, rfl⟩; exact ⟨rfl, rfl⟩))))
          go_wp2_with fail
          exact ⟨⟨i + 1, _, _, by omega, by go_num, rfl, by omega, by omega, HAS, Lib.hid (HWS.out _ _), Lib.hid (HOS.out _ _)⟩, by simp [intOf]; omega⟩
        · obtain rfl : i = N := by omega
          have hb := AddInv.back HL1.out (by rw [hk.out]; omega) HA.out
          have hw : Wr wr g o out := by have := HW2.out; rwa [← HL1.out, List.drop_length, List.append_nil] at this
          have hv0 := vl_nonneg HA.out.ok
          have hv1 := vl_lt HA.out.ok
          rw [HA.out.len] at hv1
          obtain ⟨f1, f2, f3⟩ := (est_end (R' := vl r1) (out := vl out) (c := cy) HYP.out HYB.out HU.out HL.out HNN.out).2 HLL.out (by simpa using HV1.out) hv0 hv1 hb cy0 cy1
          have F1 := Lib.hid f1
          have F2 := Lib.hid f2
          have HW3 := Lib.hid hw
          clear hb hw hv0 hv1 f1 f2
          go_wp2_with fail
          go_ret
          exact ⟨q - 1, out, rfl, by omega, by omega, HO2.out, HW3.out, HA.out.len, HA.out.ok, F1.out, F2.out⟩
end Go.Proofs.YtfcfejlffmddnaaGreatDoor
end
section
/- Plain laws: the schoolbook's long division, digit by digit. -/
namespace Go.Proofs.YtfcfejlffmddnaaGreatDoor
set_option linter.unusedSimpArgs false
set_option linter.unusedVariables false

/-- `j` digits of the quotient are left. -/
structure LongInv (X d : Nat) (n N j : Nat) (L qs : List Int) : Prop where
  lenL : L.length = N
  lenq : qs.length + j + n = N
  okL : dgs L
  okq : dgs qs
  lt : vl (L.drop j) < d
  eq : (X : Int) = vl (L.take j) + BB j * (vl (L.drop j) + d * vl qs)
theorem LongInv.row {X d n N j : Nat} {L qs : List Int} (hn : (dg d).length = n) (h : LongInv X d n N (j + 1) L qs) :
    ((L.drop j).take (n + 1)).length = n + 1 ∧ dgs ((L.drop j).take (n + 1)) ∧ vl ((L.drop j).take (n + 1)) = vl (L.drop j) ∧ vl ((L.drop j).drop (n + 1)) = 0 ∧ vl ((L.drop j).take (n + 1)) < (d : Int) * 4294967296 := by
  obtain ⟨h1, h2, h3, h4, h5, h6⟩ := h
  have hj : j < L.length := by omega
  have e1 := vl_drop_at L j (L[j]) (List.getElem?_eq_getElem hj)
  obtain ⟨a0, a1⟩ := dgs_at h3 (List.getElem?_eq_getElem hj)
  have hd := (dg_len_le d n).1 (Nat.le_of_eq hn)
  have e2 := vl_take_drop (L.drop j) (n + 1)
  have p1 := vl_nonneg (dgs_take (dgs_drop h3 j) (n + 1))
  have p2 := vl_nonneg (dgs_drop (dgs_drop h3 j) (n + 1))
  have p3 := BB_pos n
  have h0 : vl ((L.drop j).drop (n + 1)) = 0 := by
    rcases Int.lt_or_le 0 (vl ((L.drop j).drop (n + 1))) with h | h
    · have : BB (n + 1) * 1 ≤ BB (n + 1) * vl ((L.drop j).drop (n + 1)) := Int.mul_le_mul_of_nonneg_left (by omega) (Int.le_of_lt (BB_pos _))
      rw [BB_succ] at this e2
      omega
    · omega
  rw [h0, Int.mul_zero, Int.add_zero] at e2
  refine ⟨by simp; omega, dgs_take (dgs_drop h3 j) _, e2.symm, h0, ?_⟩
  rw [← e2]; omega
theorem LongInv.step {X d n N j : Nat} {L qs : List Int} (hn : (dg d).length = n) (h : LongInv X d n N (j + 1) L qs) (q : Int) (r' : List Int) (q0 : 0 ≤ q) (q1 : q < 4294967296) (hl : r'.length = n + 1) (hd : dgs r')
    (he : vl ((L.drop j).take (n + 1)) = q * d + vl r') (hlt : vl r' < d) : LongInv X d n N j (L.take j ++ (r' ++ L.drop (j + (n + 1)))) (q :: qs) := by
  obtain ⟨r1, r2, r3, r4, r5⟩ := h.row hn
  obtain ⟨h1, h2, h3, h4, h5, h6⟩ := h
  have hj : j < L.length := by omega
  have ht : (L.take j).length = j := by simp; omega
  have e1 : (L.take j ++ (r' ++ L.drop (j + (n + 1)))).take j = L.take j := List.take_left' ht
  have e2 : (L.take j ++ (r' ++ L.drop (j + (n + 1)))).drop j = r' ++ L.drop (j + (n + 1)) := List.drop_left' ht
  rw [List.drop_drop] at r4
  have e3 : vl (r' ++ L.drop (j + (n + 1))) = vl r' := by rw [vl_append, r4]; omega
  refine ⟨by simp [hl]; omega, by simp; omega, ?_, dgs_cons.2 ⟨⟨q0, q1⟩, h4⟩, by rw [e2, e3]; exact hlt, ?_⟩
  · exact dgs_append.2 ⟨dgs_take h3 _, dgs_append.2 ⟨hd, dgs_drop h3 _⟩⟩
  · rw [e1, e2, e3, vl_cons]
    have f1 := vl_drop_at L j (L[j]) (List.getElem?_eq_getElem hj)
    have f2 := vl_take_succ L j
    rw [List.getD_eq_getElem?_getD, List.getElem?_eq_getElem hj, Option.getD_some] at f2
    have f3 : vl (L.drop j) = q * d + vl r' := by rw [← r3]; exact he
    rw [f2, BB_succ] at h6
    rw [f1] at f3
    generalize vl (L.drop (j + 1)) = R at *
    generalize vl (L.take j) = T at *
    generalize L[j] = x at *
    generalize vl r' = s at *
    generalize vl qs = Q at *
    generalize BB j = W at *
    have f4 : x = q * d + s - 4294967296 * R := by omega
    subst f4
    rw [h6]
    grind
/-- The beginning: the dividend has at most n digits behind the border. -/
theorem LongInv.start {X d n N M : Nat} {L : List Int} (hL : L.length = N) (hM : M + n = N) (hd : dgs L) (hX : vl L = X) (hlt : (X : Int) < d * BB M) : LongInv X d n N M L [] := by
  have e := vl_take_drop L M
  have p1 := vl_nonneg (dgs_take hd M)
  refine ⟨hL, by simp; omega, hd, dgs_nil, ?_, by rw [vl_nil, Int.mul_zero, Int.add_zero, ← e, hX]⟩
  refine Int.not_le.1 fun hn => ?_
  have := Int.mul_le_mul_of_nonneg_left hn (Int.le_of_lt (BB_pos M))
  rw [Int.mul_comm] at hlt
  omega
theorem LongInv.fin {x y s n N : Nat} {L qs : List Int} (hy : 0 < y) (h : LongInv (x * 2 ^ s) (y * 2 ^ s) n N 0 L qs) : vl qs = ((x / y : Nat) : Int) ∧ vl L = ((x % y * 2 ^ s : Nat) : Int) := by
  obtain ⟨h1, h2, h3, h4, h5, h6⟩ := h
  rw [List.drop_zero] at h5 h6
  rw [List.take_zero, vl_nil, BB_zero, Int.zero_add, Int.one_mul] at h6
  have p1 := vl_nonneg h3
  have p2 := vl_nonneg h4
  obtain ⟨a, ha⟩ := Int.eq_ofNat_of_zero_le p1
  obtain ⟨b, hb⟩ := Int.eq_ofNat_of_zero_le p2
  rw [ha] at h5 h6
  rw [hb] at h6
  have hp : 0 < 2 ^ s := Nat.two_pow_pos s
  have e : x * 2 ^ s = b * (y * 2 ^ s) + a := by
    have : ((x * 2 ^ s : Nat) : Int) = ((b * (y * 2 ^ s) + a : Nat) : Int) := by rw [h6]; push_cast; rw [Int.add_comm, Int.mul_comm (b : Int)]
    exact_mod_cast this
  obtain ⟨f1, f2⟩ := nat_quo (Nat.mul_pos hy hp) e (by exact_mod_cast h5)
  rw [Nat.mul_div_mul_right _ _ hp] at f1
  rw [Nat.mul_mod_mul_right] at f2
  exact ⟨by rw [hb, f1], by rw [ha, f2]⟩
/-- The shift lays the first bit of the divisor at the head of its digit. -/
theorem norm_len {y k s : Nat} (hk : (dg y).length = k + 1) (t : Nat) (ht : (dg y).getD k 0 = (t : Int)) (hs : s + Lib.bitLen t = 32) : (dg (y * 2 ^ s)).length = k + 1 := by
  have ht1 : t < 2 ^ Lib.bitLen t := by
    by_cases h : t = 0
    · subst h; decide
    · have : t < 4294967296 := by have := (dgs_getD (dgs_dg y) k).2; omega
      exact (Lib.bitLenAux_bounds 64 t (by omega) h).2.2
  have e : (y : Int) = vl ((dg y).take k) + BB k * t := by
    rw [← ht, ← vl_take_succ, vl_take_all _ _ (by omega), vl_dg]
  have hb := (take_bounds (dgs_dg y) k).2
  have hlt : (y : Int) < BB k * 2 ^ Lib.bitLen t := by
    have h1 : BB k * (t + 1) ≤ BB k * ((2 ^ Lib.bitLen t : Nat) : Int) := Int.mul_le_mul_of_nonneg_left (by omega) (Int.le_of_lt (BB_pos k))
    rw [Int.mul_add, Int.natCast_pow] at h1
    have : ((2 : Nat) : Int) = 2 := rfl
    rw [this] at h1
    omega
  refine Nat.le_antisymm ?_ ?_
  · rw [dg_len_le, BB_succ]
    have h2 : (y : Int) * 2 ^ s < BB k * 2 ^ Lib.bitLen t * 2 ^ s := Int.mul_lt_mul_of_pos_right hlt (pow2_pos s)
    rw [Int.mul_assoc, ← Int.pow_add, Nat.add_comm, hs] at h2
    have e3 : (2 : Int) ^ 32 = 4294967296 := by decide
    rw [e3] at h2
    push_cast
    omega
  · rw [← hk]; exact len_mono (Nat.le_mul_of_pos_right _ (Nat.two_pow_pos s))
end Go.Proofs.YtfcfejlffmddnaaGreatDoor
end
section
/- Contracts: long. -/
namespace Go.Proofs.YtfcfejlffmddnaaGreatDoor
open Go.RowKit
set_option linter.unusedSimpArgs false
set_option linter.unusedVariables false

theorem Only.setCells (w : World) (g o n : Nat) (r : List Value) : ∀ (k : Nat) (w' : World), Only w w' g o n → k + r.length ≤ n → Only w (w'.setCells g (o + k) r) g o n := by
  induction r with
  | nil => intro k w' h _; exact h
  | cons v r ih =>
    intro k w' h hk
    simp only [List.length_cons] at hk
    rw [World.setCells, Nat.add_assoc]
    exact ih (k + 1) _ (h.set k (by omega) v) (by omega)
/-- The builtin copy, of digits over the beginning of a row. -/
theorem copy_row (w : World) (g N c : Nat) (l : List Int) (b o k c2 : Nat) (r : List Int) (hW : Wr w g 0 l) (hl : l.length = N) (hR : Rd .u32 w (some ⟨b, o, none⟩) r) (hr : r.length = k) (hk : k ≤ N) :
    ∃ w', (Builtin.copy_ #[78, 78] 3 #[.slice (some ⟨g, 0, none⟩) N c, .slice (some ⟨b, o, none⟩) k c2]).run Tryz.prog w = .ok (goInt k) w' ∧ Hid (Wr w' g 0 (r ++ l.drop k) ∧ Only w w' g 0 N) := by
  have hlen : (r.map (Value.int .u32)).length = k := by simp [hr]
  have hcell : ∀ j, j < k → ∃ x, l[j]? = some x := fun j hj => ⟨_, List.getElem?_eq_getElem (by omega)⟩
  have h := run_copy_cells (P := Tryz.prog) w 78 78 3 57 g 0 N c ⟨b, o, none⟩ k c2 (r.map (Value.int .u32)) Tryz.underlying78 (by kernel_rfl) (by rw [hlen]; exact (Nat.min_eq_left hk).symm)
    (fun j v hv => by
      rw [List.getElem?_map] at hv
      cases hx : r[j]? with
      | none => rw [hx] at hv; cases hv
      | some x =>
        rw [hx] at hv; cases hv
        rw [show (⟨b, o, none⟩ : Addr).add j = ⟨b, o + j, none⟩ by unfold Addr.add; split <;> simp_all]
        exact hR.at j x hx)
    (fun j hj => by
      obtain ⟨x, hx⟩ := hcell j (by omega)
      rw [(hW j x hx).1]; rfl)
    (fun j hj => by
      obtain ⟨x, hx⟩ := hcell j (by omega)
      exact (hW j x hx).2)
    (fun v hv => by
      obtain ⟨x, _, rfl⟩ := List.mem_map.1 hv
      rfl)
  rw [hlen] at h
  refine ⟨_, h, ?_⟩
  refine ⟨fun j x hx => ?_, Only.setCells w g 0 N _ 0 w (Only.refl _ _ _ _) (by omega)⟩
  by_cases hj : j < k
  · have hx2 : r[j]? = some x := by rwa [List.getElem?_append_left (by omega)] at hx
    have h2 := World.cell?_setCells_in g (r.map (Value.int .u32)) 0 w (fun j hj => by
      obtain ⟨x, hx⟩ := hcell j (by omega)
      rw [(hW j x hx).1]; rfl) j (by omega)
    obtain ⟨y, hy⟩ := hcell j hj
    refine ⟨?_, by rw [World.frozen?_setCells]; exact (hW j y hy).2⟩
    rw [h2]
    obtain ⟨hj3, hx3⟩ := List.getElem?_eq_some_iff.1 hx2
    simp [hx3]
  · rw [List.getElem?_append_right (by omega), List.getElem?_drop] at hx
    have e : k + (j - r.length) = j := by omega
    rw [e] at hx
    refine ⟨?_, by rw [World.frozen?_setCells]; exact (hW j x hx).2⟩
    rw [World.cell?_setCells_out g _ 0 w _ (fun _ _ => .inr (by simp; omega))]
    exact (hW j x hx).1
theorem long_lt {x y k1 k2 M s : Nat} (hx : (dg x).length = k1) (hy : (dg y).length = k2 + 1) (hM : M + (k2 + 1) = k1 + 1) : ((x * 2 ^ s : Nat) : Int) < ((y * 2 ^ s : Nat) : Int) * BB M := by
  have h1 := (dg_len_le x k1).1 (by omega)
  have h2 := (dg_len_lt y k2).1 (by omega)
  obtain rfl : k1 = k2 + M := by omega
  rw [BB_add] at h1
  have h3 : BB k2 * BB M ≤ y * BB M := Int.mul_le_mul_of_nonneg_right h2 (Int.le_of_lt (BB_pos M))
  have h4 : (x : Int) * 2 ^ s < y * BB M * 2 ^ s := Int.mul_lt_mul_of_pos_right (by omega) (pow2_pos s)
  push_cast
  rw [Int.mul_right_comm] at h4
  exact h4
theorem cmp_case (x y : Nat) : (x < y ∧ cmpI x y = -1) ∨ (y ≤ x ∧ (cmpI x y = 0 ∨ cmpI x y = 1)) := by
  unfold cmpI
  split
  · left; omega
  · right; split <;> omega

variable {w0 w : World} {l : List (Option Addr × Nat × Nat × Nat)}
set_option maxRecDepth 10000 in
set_option maxHeartbeats 1000000 in
theorem long_short (H : Has w0 w l) (A1 : Option Addr) (k1 c1 x : Nat) (A2 : Option Addr) (c2 y : Nat) (h1 : (A1, k1, c1, x) ∈ l) (h2 : (A2, 1, c2, y) ∈ l) (b1 : k1 ≤ 1099511627776) :
    Calls Tryz.prog 79 #[.slice A1 k1 c1, .slice A2 1 c2] w (Made2 w0 l (x / y) (x % y) k1 2) := by
  obtain ⟨hr2, hk2, _, _⟩ := H.at h2
  have hy0 : 0 < y := by
    rcases Nat.eq_zero_or_pos y with h | h
    · subst h; rw [dg_zero] at hk2; cases hk2
    · exact h
  have hy1 : y < 4294967296 := by have := lt_of_len (Nat.le_of_eq hk2); omega
  rw [dg_small (by omega) hy1] at hr2
  obtain ⟨b, o, rfl, hc⟩ := hr2 (by simp)
  have hc0 : w.cell? ⟨b, o, none⟩ = some (.int .u32 (y : Int)) := hc 0 _ rfl
  have HH := Lib.hid H
  clear hk2 hr2 hc H
  go_enter Tryz.func79, Tryz.ntmps79
  go_wp2_with fail
  refine (short_h HH.out A1 k1 c1 x y h1 b1 hy0 hy1).mono ?_
  rintro e w1 ⟨A3, k3, c3, n3, A4, k4, c4, n4, rfl, hn3, hn4, b3, b4, H1⟩
  go_wp2_with fail
  go_ret2
  exact ⟨A3, k3, c3, n3, A4, k4, c4, n4, rfl, hn3, hn4, b3, b4, H1⟩
set_option maxRecDepth 10000 in
set_option maxHeartbeats 1000000 in
theorem long_less (H : Has w0 w l) (A1 : Option Addr) (k1 c1 x : Nat) (A2 : Option Addr) (k2 c2 y : Nat) (h1 : (A1, k1, c1, x) ∈ l) (h2 : (A2, k2, c2, y) ∈ l) (b1 : k1 ≤ 1099511627776) (b2 : k2 ≤ 1099511627776) (hne : k2 ≠ 1) (hlt : x < y) :
    Calls Tryz.prog 79 #[.slice A1 k1 c1, .slice A2 k2 c2] w (Made2 w0 l (x / y) (x % y) k1 k1) := by
  have hcm : Hid (cmpI x y = -1) := Lib.hid (by rw [cmpI, if_pos hlt])
  have HH := Lib.hid H
  have HLT := Lib.hid hlt
  have hne1 : (k2 : Int) ≠ 1 := by omega
  clear H hlt
  go_enter Tryz.func79, Tryz.ntmps79
  go_wp2_with fail
  refine (cmp_h HH.out A1 k1 c1 x A2 k2 c2 y h1 h2 b1 b2 _ hcm).mono ?_
  rintro e w1 ⟨rfl, H1⟩
  go_wp2_with fail
  go_ret2
  obtain ⟨r1, e1, p1, p2⟩ := H1.at h1
  exact ⟨_, _, _, 0, _, _, _, x, rfl, Lib.hid (Nat.div_eq_of_lt HLT.out).symm, Lib.hid (Nat.mod_eq_of_lt HLT.out).symm, Nat.zero_le _, Nat.le_refl _, (H1.cons r1 e1 p1 p2).cons (by rw [dg_zero]; exact Rd.nil) (by rw [dg_zero]; rfl) (Nat.le_refl _) (by omega)⟩
end Go.Proofs.YtfcfejlffmddnaaGreatDoor
end
section
/- Contracts: long, the great way. -/
namespace Go.Proofs.YtfcfejlffmddnaaGreatDoor
open Go.RowKit
set_option linter.unusedSimpArgs false
set_option linter.unusedVariables false

theorem Has.rebase {w0 w : World} {l : List (Option Addr × Nat × Nat × Nat)} (h : Has w0 w l) : Has w w l := ⟨Below.refl _ _, h.r⟩
theorem zeros_behind {X k N : Nat} (hk : (dg X).length = k) (h : k ≤ N) : (dg X ++ (List.replicate N (0 : Int)).drop k).length = N ∧ dgs (dg X ++ (List.replicate N (0 : Int)).drop k) ∧ vl (dg X ++ (List.replicate N (0 : Int)).drop k) = X := by
  rw [List.drop_replicate]
  exact ⟨by simp [hk]; omega, dgs_append.2 ⟨dgs_dg X, dgs_zeros _⟩, by rw [vl_append, vl_zeros, vl_dg]; omega⟩
theorem Only.wr {w w' : World} {g o n : Nat} (h : Only w w' g o n) {g2 o2 : Nat} {l : List Int} (hW : Wr w g2 o2 l) (hne : g2 ≠ g) : Wr w' g2 o2 l := by
  intro j x hx
  obtain ⟨c1, c2⟩ := hW j x hx
  have hb := h.block g2 (World.block_lt_of_cell? w _ c1) hne
  exact ⟨by rw [World.cell?_of_block (w := w) (a := ⟨g2, o2 + j, none⟩) hb]; exact c1, by rw [World.frozen?_of_block (w := w) (a := ⟨g2, o2 + j, none⟩) hb]; exact c2⟩
theorem Wr.other {w : World} {g o : Nat} {l : List Int} (h : Wr w g o l) (p : Addr) (v : Value) (hne : g ≠ p.block) : Wr (w.setCell p v) g o l := by
  intro j x hx
  obtain ⟨c1, c2⟩ := h j x hx
  exact ⟨by rw [World.cell?_setCell_other _ _ _ _ (by intro h2; rw [h2] at hne; exact hne rfl)]; exact c1, by rw [World.frozen?_setCell]; exact c2⟩
theorem Wr.patch {w w' : World} {g j n : Nat} {L r : List Int} (h : Wr w g 0 L) (ho : Only w w' g j n) (hr : Wr w' g j r) (hn : r.length = n) (hj : j + n ≤ L.length) : Wr w' g 0 (L.take j ++ (r ++ L.drop (j + n))) := by
  have ht : (L.take j).length = j := by simp; omega
  have hout : ∀ i x, (i < j ∨ j + n ≤ i) → L[i]? = some x → w'.cell? ⟨g, 0 + i, none⟩ = some (.int .u32 x) ∧ w'.frozen? ⟨g, 0 + i, none⟩ = false := fun i x hi hx => by
    obtain ⟨c1, c2⟩ := h i x hx
    rw [Nat.zero_add] at c1 c2 ⊢
    exact ⟨by rw [ho.cell i hi]; exact c1, by rw [ho.frozen i]; exact c2⟩
  intro i x hx
  by_cases h1 : i < j
  · rw [List.getElem?_append_left (by omega), List.getElem?_take, if_pos h1] at hx
    exact hout i x (.inl h1) hx
  · rw [List.getElem?_append_right (by omega), ht] at hx
    by_cases h2 : i < j + n
    · rw [List.getElem?_append_left (by omega)] at hx
      have := hr (i - j) x hx
      rwa [show j + (i - j) = i by omega, ← Nat.zero_add i] at this
    · rw [List.getElem?_append_right (by omega), List.getElem?_drop, hn, show j + n + (i - j - n) = i by omega] at hx
      exact hout i x (.inr (by omega)) hx
variable {w0 w : World} {l : List (Option Addr × Nat × Nat × Nat)}
set_option maxRecDepth 10000 in
set_option maxHeartbeats 2000000 in
theorem long_great (H : Has w0 w l) (A1 : Option Addr) (k1 c1 x : Nat) (A2 : Option Addr) (k2 c2 y : Nat) (h1 : (A1, k1, c1, x) ∈ l) (h2 : (A2, k2, c2, y) ∈ l) (b1 : k1 ≤ 549755813888) (hn2 : 2 ≤ k2) (hle : y ≤ x) :
    Calls Tryz.prog 79 #[.slice A1 k1 c1, .slice A2 k2 c2] w (Made2 w0 l (x / y) (x % y) k1 k2) := by
  obtain ⟨r1, e1, _, _⟩ := H.at h1
  obtain ⟨r2, e2, _, _⟩ := H.at h2
  have hk12 : k2 ≤ k1 := by rw [← e1, ← e2]; exact len_mono hle
  have hne1 : (k2 : Int) ≠ 1 := by omega
  have hcm : ∃ r, 0 ≤ r ∧ cmpI x y = r := by
    rcases cmp_case x y with ⟨h, _⟩ | ⟨_, h | h⟩
    · omega
    · exact ⟨0, by omega, h⟩
    · exact ⟨1, by omega, h⟩
  obtain ⟨r, hr0, hr⟩ := hcm
  have HCR := Lib.hid hr
  obtain ⟨m, hm⟩ : ∃ m, k2 = m + 2 := ⟨k2 - 2, by omega⟩
  obtain ⟨t, ht⟩ : ∃ t : Nat, (dg y).getD (m + 1) 0 = (t : Int) := ⟨((dg y).getD (m + 1) 0).toNat, by have := digit_lt y (m + 1); omega⟩
  have ht1 : t < 4294967296 := by have := digit_lt y (m + 1); omega
  obtain ⟨j1, hj1⟩ : ∃ j : Nat, (k2 : Int) - 1 = j := ⟨m + 1, by omega⟩
  have hj1m : j1 = m + 1 := by omega
  obtain ⟨b, o, hA2, hcell⟩ := r2 (by intro h; rw [h] at e2; simp at e2; omega)
  subst hA2
  have hcl : ∀ W, Rd .u32 W (some ⟨b, o, none⟩) (dg y) → World.cell? W ⟨b, o + j1, none⟩ = some (.int .u32 (t : Int)) := fun W h => by
    refine h.at j1 _ ?_
    rw [hj1m, ← ht, List.getD_eq_getElem?_getD, List.getElem?_eq_getElem (by omega)]; rfl
  have hji : (j1 : Int) < k2 := by omega
  have hbl : Lib.bitLen t ≤ 32 := Lib.bitLen_le t 32 (by omega) (by omega)
  obtain ⟨s, hs⟩ : ∃ s : Nat, s + Lib.bitLen t = 32 := ⟨32 - Lib.bitLen t, by omega⟩
  have hnl := norm_len (y := y) (k := m + 1) (s := s) (by omega) t ht hs
  have hs32 : s ≤ 32 := by omega
  have hll := long_lt (x := x) (y := y) (k1 := k1) (k2 := m + 1) (M := k1 + 1 - k2) (s := s) e1 (by omega) (by omega)
  obtain ⟨sv, hsv⟩ : ∃ sv : Int, (32 - (Lib.bitLen t : Int)) = sv := ⟨_, rfl⟩
  have hsvs : sv = s := by omega
  have hcapX : (dg (x * 2 ^ s)).length ≤ k1 + 1 := by
    refine len_of_lt ?_
    have hx1 := lt_of_len (Nat.le_of_eq e1)
    have : (2 : Nat) ^ s ≤ 2 ^ 32 := Nat.pow_le_pow_right (by decide) hs32
    rw [Nat.pow_succ]
    exact Nat.mul_lt_mul_of_lt_of_le hx1 (by omega) (by decide)
  have hxpos : x * 2 ^ s ≠ 0 := by
    have : 0 < x := by
      rcases Nat.eq_zero_or_pos x with h | h
      · subst h; rw [dg_zero] at e1; simp at e1; omega
      · exact h
    have := Nat.mul_pos this (Nat.two_pow_pos s)
    omega
  have HH := Lib.hid H
  have HNL := Lib.hid hnl
  have HCL := Lib.hid hcl
  have HLL := Lib.hid hll
  have HS := Lib.hid hs
  have HSV := Lib.hid hsv
  have HM := Lib.hid hm
  have HCX := Lib.hid hcapX
  have HXP := Lib.hid hxpos
  have HLE := Lib.hid hle
  have hmk := fun N (h : N ≤ 9223372036854775807) (h4 : 4 * N ≤ 281474976710656) => run_make_row' (P := Tryz.prog) 78 57 (.int .u32 0) 4 Tryz.underlying78 info57 rfl .i64 .i64 N h4 h
  have m1 := hmk (k1 + 1) (by omega) (by omega)
  have HMK := Lib.hid hmk
  rw [Int.natCast_add, Int.natCast_one] at m1
  obtain ⟨N, hN⟩ : ∃ N, k1 + 1 = N := ⟨_, rfl⟩
  have hNb : N ≤ 549755813889 := by omega
  have hN2 : k2 ≤ N := by omega
  have HN := Lib.hid hN
  clear H hr ht hj1m hcell r1 r2 e1 e2 hbl hs hnl hll hsv hm hcl hcapX hxpos hle hmk hN
  subst hsvs
  go_enter Tryz.func79, Tryz.ntmps79
  go_wp2_with fail
  refine (cmp_h HH.out A1 k1 c1 x _ k2 c2 y h1 h2 (by omega) (by omega) r HCR).mono ?_
  rintro e w1 ⟨rfl, H1⟩
  have hcl1 := HCL.out w1 (H1.at h2).1
  go_upto_region 8 with fail
  refine (Tryz.bits_LeadingZeros32 _ _ (by omega) (by omega)).mono ?_
  rintro e w' ⟨rfl, rfl⟩
  rw [Int.toNat_natCast, HSV.out]
  clear hcl1
  go_upto_region 8 with fail
  refine (shl_h H1 _ k2 c2 y _ h2 (by omega) (by omega) (by omega)).mono ?_
  rintro e w2 ⟨A3, k3, c3, n3, rfl, hn3, b3, H2⟩
  rw [Int.toNat_natCast] at hn3 b3
  obtain rfl : n3 = y * 2 ^ s := hn3.out
  obtain rfl : k3 = k2 := by rw [← (H2.at (A := A3) (k := k3) (c := c3) (n := y * 2 ^ s) (by simp)).2.1, HNL.out, HM.out]
  go_upto_region 8 with fail
  go_cut [9] (fun v wc => v = .slice (some ⟨w2.heap.size, 0, none⟩) N N ∧ Hid (Wr wc w2.heap.size 0 (List.replicate N 0)) ∧ Hid (Below w2.heap.size w2 wc))
  case first =>
    go_wp2_with fail
    go_meet
    case rel => exact ⟨by rw [HN.out], Lib.hid (by rw [← HN.out]; exact Wr.made _ _ _), Lib.hid ((Below.refl _ _).alloc (Nat.le_refl _) _)⟩
  case rest =>
    obtain ⟨rfl, HW, HB⟩ := hcut
    clear m1
    have hH3 := (H2.below HB.out).rebase
    have H3 := Lib.hid hH3
    clear hH3
    go_upto_region 9 with fail
    go_wp2_with fail
    refine (shl_h H3.out _ k1 c1 x _ (by simp [h1]) (by omega) (by omega) (by omega)).mono ?_
    rintro e w3 ⟨A4, k4, c4, n4, rfl, hn4, b4, H4⟩
    rw [Int.toNat_natCast] at hn4 b4
    obtain rfl : n4 = x * 2 ^ s := hn4.out
    obtain ⟨r4, e4, _, _⟩ := H4.at (A := A4) (k := k4) (c := c4) (n := x * 2 ^ s) (by simp)
    obtain ⟨b4', o4, hA4, hc4⟩ := r4 (by intro h; rw [← List.length_eq_zero_iff, dg_nil_iff] at h; exact HXP.out h)
    subst hA4
    have hk4N : k4 ≤ N := by rw [← e4, ← HN.out]; exact HCX.out
    obtain ⟨w4, hcp, hpost⟩ := copy_row w3 w2.heap.size N N _ b4' o4 k4 c4 _ (HW.out.below H4.b (HW.out.lt (by intro h; rw [← List.length_eq_zero_iff] at h; simp at h; omega))) (by simp) r4 e4 hk4N
    obtain ⟨z1, z2, z3⟩ := zeros_behind e4 hk4N
    obtain ⟨L0, hL0⟩ : ∃ L0, dg (x * 2 ^ s) ++ (List.replicate N (0 : Int)).drop k4 = L0 := ⟨_, rfl⟩
    rw [hL0] at hpost z1 z2 z3
    have hB4 : Below w2.heap.size w2 w4 := (HB.out.trans (H4.b.mono (HB.out.size))).trans (hpost.out.2.below (Nat.le_refl _) (Nat.le_trans HB.out.size H4.b.size))
    have HWL := Lib.hid hpost.out.1
    have HZ1 := Lib.hid z1
    have HZ2 := Lib.hid z2
    have HZ3 := Lib.hid z3
    have HB4 := Lib.hid hB4
    clear hn4 b4 hL0 hpost z1 z2 z3 hB4 r4 e4 hc4 H4
    obtain ⟨M, hM⟩ : ∃ M, N = M + k3 := ⟨N - k3, by omega⟩
    have hMi : (N : Int) - k3 = M := by omega
    have m2 := HMK.out M (by omega) (by omega)
    have HMN := Lib.hid hM
    clear hM
    go_upto_region 10 with fail
    clear hcp
    go_cut [10] (fun v wc => v = .slice (some ⟨w4.heap.size, 0, none⟩) M M ∧ Hid (Wr wc w4.heap.size 0 (List.replicate M 0)) ∧ Hid (Below w4.heap.size w4 wc))
    case first =>
      go_wp2_with fail
      go_meet
      case rel => exact ⟨rfl, Lib.hid (Wr.made _ _ _), Lib.hid ((Below.refl _ _).alloc (Nat.le_refl _) _)⟩
    case rest =>
      obtain ⟨rfl, HWQ, HB5⟩ := hcut
      clear m2 hMi
      have hMN : M ≤ N := by have := HMN.out; omega
      have hg4 : w2.heap.size < w4.heap.size := HWL.out.lt (by intro h; rw [← List.length_eq_zero_iff, HZ1.out] at h; omega)
      have hW5 := HWL.out.below HB5.out hg4
      have hB5 := HB4.out.trans (HB5.out.mono (Nat.le_of_lt hg4))
      obtain ⟨p1, p2, _, _⟩ := H2.at (A := A3) (k := k3) (c := c3) (n := y * 2 ^ s) (by simp)
      have hst := LongInv.start (n := k3) HZ1.out HMN.out.symm HZ2.out HZ3.out (d := y * 2 ^ s) (by
        have := HLL.out
        rwa [show k1 + 1 - k3 = M by have := HN.out; have := HMN.out; omega] at this)
      obtain ⟨b3', o3, hA3, hc3⟩ := p1 (by intro h; rw [h] at p2; simp at p2; omega)
      subst hA3
      have hb3 : b3' < w2.heap.size := by
        cases hd : dg (y * 2 ^ s) with
        | nil => rw [hd] at p2; simp at p2; omega
        | cons z zs => exact World.block_lt_of_cell? w2 _ (hc3 0 z (by rw [hd]; rfl))
      have HB3 := Lib.hid hb3
      have HG4 := Lib.hid hg4
      have HW5 := Lib.hid hW5
      have HBB := Lib.hid hB5
      have HP2 := Lib.hid p2
      have HST := Lib.hid hst
      clear hg4 hW5 hB5 p1 p2 hst hc3 hb3 HWL HB4 HB5 HB HW
      go_wp2_with fail
      go_loopw [11] (fun v11 wr => ∃ (j : Nat) (L qs : List Int), j ≤ M ∧ v11 = .int .i64 ((j : Int) - 1) ∧ Hid (LongInv (x * 2 ^ s) (y * 2 ^ s) k3 N j L qs) ∧ Hid (Wr wr w2.heap.size 0 L) ∧ Hid (Wr wr w4.heap.size 0 (List.replicate j 0 ++ qs)) ∧ Hid (Below w2.heap.size w2 wr)) (fun v11 wr => (intOf v11 + 1).toNat)
      case atStart => exact ⟨M, L0, [], Nat.le_refl _, by go_num, HST, HW5, by rw [List.append_nil]; exact HWQ, HBB⟩
      case round =>
        obtain ⟨j, L, qs, hj, rfl, HI, HWL, HWQ, HBR⟩ := hrel
        cases j with
        | zero =>
          have hz : ¬ (0 : Int) ≤ ((0 : Nat) : Int) - 1 := by omega
          obtain ⟨f1, f2⟩ := LongInv.fin (by
            rcases Nat.eq_zero_or_pos y with h | h
            · subst h; have := HP2.out; rw [Nat.zero_mul, dg_zero] at this; simp at this; omega
            · exact h) HI.out
          have hql : qs.length = M := by have := HI.out.lenq; have := HMN.out; omega
          have hwq : Wr wr w4.heap.size 0 qs := by have := HWQ.out; simpa using this
          have F1 := Lib.hid f1
          have F2 := Lib.hid f2
          have QL := Lib.hid hql
          have QW := Lib.hid hwq
          clear f1 f2 hql hwq
          go_wp2_with fail
          refine (trim_calls _ M M qs (x / y) wr QL.out (Nat.le_refl _) (by omega) HI.out.okq F1.out QW.out.rd).mono ?_
          rintro e w6 ⟨rfl, rfl⟩
          have hq := (H2.below HBR.out).cons (A := some ⟨w4.heap.size, 0, none⟩) (k := (dg (x / y)).length) (c := M) (n := x / y) (by rw [← (take_dg qs (x / y) HI.out.okq F1.out).2]; exact QW.out.rd.take _) rfl (by rw [← QL.out]; exact (take_dg qs (x / y) HI.out.okq F1.out).1) (by omega)
          have HQ := Lib.hid hq
          clear hq
          go_wp2_with fail
          refine (trim_calls _ N N L (x % y * 2 ^ s) wr HI.out.lenL (Nat.le_refl _) (by omega) HI.out.okL F2.out HWL.out.rd).mono ?_
          rintro e w6 ⟨rfl, rfl⟩
          have hr := HQ.out.cons (A := some ⟨w2.heap.size, 0, none⟩) (k := (dg (x % y * 2 ^ s)).length) (c := N) (n := x % y * 2 ^ s) (by rw [← (take_dg L (x % y * 2 ^ s) HI.out.okL F2.out).2]; exact HWL.out.rd.take _) rfl (by rw [← HI.out.lenL]; exact (take_dg L (x % y * 2 ^ s) HI.out.okL F2.out).1) (by omega)
          have HR := Lib.hid hr
          have hrl : (dg (x % y * 2 ^ s)).length ≤ N := by rw [← HI.out.lenL]; exact (take_dg L _ HI.out.okL F2.out).1
          clear hr
          go_wp2_with fail
          refine (shr_h HR.out _ _ N (x % y * 2 ^ s) _ (by simp) (by omega) (by omega)).mono ?_
          rintro e w7 ⟨A7, k7, c7, n7, rfl, hn7, b7, H7⟩
          rw [Int.toNat_natCast, Nat.mul_div_cancel _ (Nat.two_pow_pos s)] at hn7
          obtain rfl : n7 = x % y := hn7.out
          go_wp2_with fail
          go_ret2
          obtain ⟨_, e1, _, _⟩ := H7.at (A := A1) (k := k1) (c := c1) (n := x) (by simp [h1])
          obtain ⟨_, e2, _, _⟩ := H7.at (A := some ⟨b, o, none⟩) (k := k3) (c := c2) (n := y) (by simp [h2])
          obtain ⟨_, e7, _, _⟩ := H7.at (A := A7) (k := k7) (c := c7) (n := x % y) (by simp)
          have hy : 0 < y := by
            rcases Nat.eq_zero_or_pos y with h | h
            · subst h; rw [dg_zero] at e2; simp at e2; omega
            · exact h
          refine ⟨_, _, _, x / y, _, _, _, x % y, rfl, Lib.hid rfl, Lib.hid rfl, by rw [← e1]; exact len_div x y, by rw [← e7, ← e2]; exact len_mono (Nat.le_of_lt (Nat.mod_lt _ hy)), H7.keep ?_⟩
          intro p hp
          simp only [List.mem_cons] at hp ⊢
          rcases hp with rfl | rfl | hp
          · simp
          · simp
          · simp [hp]
        | succ j =>
          have hz : ((j + 1 : Nat) : Int) - 1 = j := by omega
          have hjM : (j : Int) < M := by omega
          have hjN : (j : Int) + k3 + 1 ≤ N := by have := HMN.out; omega
          rw [hz]
          clear hz
          obtain ⟨q1, q2, q3, q4, q5⟩ := HI.out.row HP2.out
          obtain ⟨row, hrow⟩ : ∃ r, (L.drop j).take (k3 + 1) = r := ⟨_, rfl⟩
          rw [hrow] at q1 q2 q5
          have hwr : Wr wr w2.heap.size j row := by
            have := (HWL.out.drop j).take (k3 + 1)
            rwa [Nat.zero_add, hrow] at this
          have hrd := ((H2.below HBR.out).at (A := some ⟨b3', o3, none⟩) (k := k3) (c := c3) (n := y * 2 ^ s) (by simp)).1
          have Q1 := Lib.hid q1
          have Q2 := Lib.hid q2
          have Q5 := Lib.hid q5
          have QW := Lib.hid hwr
          have QR := Lib.hid hrd
          have QROW := Lib.hid hrow
          clear q1 q2 q3 q4 q5 hrow hwr hrd
          go_wp2_with fail
          rw [show j + k3 + 1 - j = k3 + 1 by omega]
          refine (estimate_calls w2.heap.size j (N - j) (k3 + 1) row b3' o3 k3 c3 (y * 2 ^ s) m wr Q1 (by omega) (Lib.hid (by rw [HM.out])) Q2 QW QR HP2 HM (Lib.hid (by have := HB3.out; omega)) Q5).mono ?_
          rintro e w6 ⟨q, r', rfl, hq0, hq1, HO, hw', hl', hd', he', hlt'⟩
          have hL := HI.out.step HP2.out q r' hq0 hq1 hl' hd' (by rw [QROW.out]; exact he') hlt'
          have hwl := HWL.out.patch HO hw' hl' (by rw [HI.out.lenL]; have := HMN.out; omega)
          have hwq := HO.wr HWQ.out (by have := HG4.out; omega)
          have hbr := HBR.out.trans (HO.below (Nat.le_refl _) HBR.out.size)
          obtain ⟨hc1, hc2⟩ := hwq j 0 (low_get qs j)
          rw [Nat.zero_add] at hc1 hc2
          have hwq2 : Wr (Go.World.setCell w6 ⟨w4.heap.size, j, none⟩ (.int .u32 q)) w4.heap.size 0 (List.replicate j 0 ++ q :: qs) := by
            have := hwq.set j q
            rwa [Nat.zero_add, low_set] at this
          have hwl2 := hwl.other ⟨w4.heap.size, j, none⟩ (.int .u32 q) (by have := HG4.out; show w2.heap.size ≠ w4.heap.size; omega)
          have hbr2 := hbr.setCell (p := ⟨w4.heap.size, j, none⟩) (Nat.le_of_lt HG4.out) (.int .u32 q)
          have X1 := Lib.hid hL
          have X2 := Lib.hid hwl2
          have X3 := Lib.hid hwq2
          have X4 := Lib.hid hbr2
          clear hL hwl hwq hbr hwq2 hwl2 hbr2 HO hw' hl' hd' he' hlt'
          go_wp2_with fail
          exact ⟨⟨j, _, _, by omega, rfl, X1, X2, X3, X4⟩, by simp [intOf]⟩
end Go.Proofs.YtfcfejlffmddnaaGreatDoor
end
section
/- Contracts: long, as one. -/
namespace Go.Proofs.YtfcfejlffmddnaaGreatDoor
open Go.RowKit
set_option linter.unusedSimpArgs false
set_option linter.unusedVariables false

theorem Made2.tight {w0 : World} {l : List (Option Addr × Nat × Nat × Nat)} {q r K L : Nat} {e : Ending} {w' : World} (h : Made2 w0 l q r K L e w') (K' L' : Nat) (hK : (dg q).length ≤ K') (hL : (dg r).length ≤ L') : Made2 w0 l q r K' L' e w' := by
  obtain ⟨A, k, c, n, A2, k2, c2, n2, rfl, h1, h2, h3, h4, H⟩ := h
  obtain rfl : n = q := h1.out
  obtain rfl : n2 = r := h2.out
  have e1 := (H.at (A := A) (k := k) (c := c) (n := n) (by simp)).2.1
  have e2 := (H.at (A := A2) (k := k2) (c := c2) (n := n2) (by simp)).2.1
  exact ⟨A, k, c, n, A2, k2, c2, n2, rfl, h1, h2, by omega, by omega, H⟩
theorem Made.tight {w0 : World} {l : List (Option Addr × Nat × Nat × Nat)} {q K : Nat} {e : Ending} {w' : World} (h : Made w0 l q K e w') (K' : Nat) (hK : (dg q).length ≤ K') : Made w0 l q K' e w' := by
  obtain ⟨A, k, c, n, rfl, h1, h3, H⟩ := h
  obtain rfl : n = q := h1.out
  have e1 := (H.at (A := A) (k := k) (c := c) (n := n) (by simp)).2.1
  exact ⟨A, k, c, n, rfl, h1, by omega, H⟩
variable {w0 w : World} {l : List (Option Addr × Nat × Nat × Nat)}
theorem long_h (H : Has w0 w l) (A1 : Option Addr) (k1 c1 x : Nat) (A2 : Option Addr) (k2 c2 y : Nat) (h1 : (A1, k1, c1, x) ∈ l) (h2 : (A2, k2, c2, y) ∈ l) (b1 : k1 ≤ 549755813888) (b2 : k2 ≤ 1099511627776) (hy : 0 < y) :
    Calls Tryz.prog 79 #[.slice A1 k1 c1, .slice A2 k2 c2] w (Made2 w0 l (x / y) (x % y) k1 k2) := by
  have e1 := (H.at h1).2.1
  have e2 := (H.at h2).2.1
  have t1 : (dg (x / y)).length ≤ k1 := by rw [← e1]; exact len_div x y
  have t2 : (dg (x % y)).length ≤ k2 := by rw [← e2]; exact len_mono (Nat.le_of_lt (Nat.mod_lt _ hy))
  have h0 : k2 ≠ 0 := by rw [← e2]; intro h; rw [dg_nil_iff] at h; omega
  by_cases hk : k2 = 1
  · subst hk
    exact (long_short H A1 k1 c1 x A2 c2 y h1 h2 (by omega)).mono (fun e w' h => h.tight _ _ t1 t2)
  · rcases Nat.lt_or_ge x y with h | h
    · exact (long_less H A1 k1 c1 x A2 k2 c2 y h1 h2 (by omega) b2 hk h).mono (fun e w' h => h.tight _ _ t1 t2)
    · exact long_great H A1 k1 c1 x A2 k2 c2 y h1 h2 b1 (by omega) h
end Go.Proofs.YtfcfejlffmddnaaGreatDoor
end
section
/- Plain laws: division by blocks. -/
namespace Go.Proofs.YtfcfejlffmddnaaGreatDoor
set_option linter.unusedSimpArgs false
set_option linter.unusedVariables false

/-- The border of the loop in thrice. -/
structure TriInv (a d P q r : Nat) : Prop where
  eq : a + P = q * d + r
  lt : r < P + d
theorem TriInv.step {a d P q r : Nat} (h : TriInv a d P q r) (hr : r < P) : 1 ≤ q ∧ TriInv a d P (q - 1) (r + d) := by
  obtain ⟨h1, h2⟩ := h
  have hq : 1 ≤ q := by
    rcases Nat.eq_zero_or_pos q with h | h
    · subst h; omega
    · exact h
  obtain ⟨p, rfl⟩ : ∃ p, q = p + 1 := ⟨q - 1, by omega⟩
  refine ⟨hq, ?_, by omega⟩
  rw [Nat.add_sub_cancel, h1, Nat.add_mul]; omega
theorem TriInv.fin {a d P q r : Nat} (hd : 0 < d) (h : TriInv a d P q r) (hr : P ≤ r) : q = a / d ∧ r - P = a % d := by
  obtain ⟨h1, h2⟩ := h
  exact nat_quo hd (by omega) (by omega)
theorem TriInv.below {a d H : Nat} (hH : 0 < H) (hf : 0 < d / H) : TriInv a d (a / H / (d / H) * (d % H)) (a / H / (d / H)) (a / H % (d / H) * H + a % H) := by
  have e1 := Nat.div_add_mod d H
  have e2 := Nat.div_add_mod a H
  have e3 := Nat.div_add_mod (a / H) (d / H)
  have l1 := Nat.mod_lt a hH
  have l2 := Nat.mod_lt (a / H) hf
  refine ⟨thrice_start (h1 := 0) (d := d) (fi := d / H) (se := d % H) (top := a / H) (lo := a % H) (H := H) ?_ ?_ ?_, ?_⟩
  · rw [Nat.mul_comm]; exact e1.symm
  · rw [Nat.mul_comm]; exact e2.symm
  · rw [Nat.mul_comm]; exact e3.symm
  · have : (a / H % (d / H) + 1) * H ≤ d / H * H := Nat.mul_le_mul_right _ l2
    rw [Nat.add_mul, Nat.one_mul, Nat.mul_comm (d / H)] at this
    omega
theorem TriInv.above {a d H : Nat} (hH : 0 < H) (ha : a < d * H) (hle : d / H ≤ a / (H * H)) : d / H * H ≤ a / H ∧ TriInv a d ((H - 1) * (d % H)) (H - 1) ((a / H - d / H * H + d / H) * H + a % H) := by
  have e1 := Nat.div_add_mod d H
  have e2 := Nat.div_add_mod a H
  have l1 := Nat.mod_lt a hH
  have h1 : d / H * H ≤ a / H := by
    rw [← Nat.div_div_eq_div_mul] at hle
    have := Nat.mul_le_mul_right H hle
    exact Nat.le_trans this (Nat.div_mul_le_self _ _)
  obtain ⟨K, rfl⟩ : ∃ K, H = K + 1 := ⟨H - 1, by omega⟩
  have e3 : a + (K + 1 - 1) * (d % (K + 1)) = (K + 1 - 1) * d + ((a / (K + 1) - d / (K + 1) * (K + 1) + d / (K + 1)) * (K + 1) + a % (K + 1)) := by
    refine thrice_start (h1 := 0) (d := d) (fi := d / (K + 1)) (se := d % (K + 1)) (top := a / (K + 1)) (lo := a % (K + 1)) (H := K + 1) ?_ ?_ ?_
    · rw [Nat.mul_comm]; exact e1.symm
    · rw [Nat.mul_comm]; exact e2.symm
    · obtain ⟨z, hz⟩ := Nat.exists_eq_add_of_le h1
      rw [hz, Nat.add_sub_cancel_left, Nat.add_sub_cancel, Nat.mul_comm K, Nat.mul_add]; omega
  refine ⟨h1, e3, ?_⟩
  rw [Nat.add_sub_cancel] at e3 ⊢
  rw [Nat.mul_add, Nat.mul_one, Nat.mul_comm] at ha
  omega
theorem twice_top {a d H : Nat} (hH : 0 < H) (h : a / (H * H) < d / H) : a / H < d / H * H := by
  rw [← Nat.div_div_eq_div_mul] at h
  exact (Nat.div_lt_iff_lt_mul hH).1 h
theorem twice_fin {a d H u r v s : Nat} (hd : 0 < d) (hH : 0 < H) (h1 : u = a / H / d) (h2 : r = a / H % d) (h3 : v = (r * H + a % H) / d) (h4 : s = (r * H + a % H) % d) : u * H + v = a / d ∧ s = a % d := by
  have e2 := Nat.div_add_mod a H
  have e3 := Nat.div_add_mod (a / H) d
  have e4 := Nat.div_add_mod (r * H + a % H) d
  rw [← h1, ← h2] at e3
  rw [← h3, ← h4] at e4
  refine nat_quo hd ?_ (by rw [h4]; exact Nat.mod_lt _ hd)
  rw [← e2, ← e3, Nat.add_mul]
  have f1 : H * (d * u + r) = u * H * d + r * H := by rw [Nat.mul_add]; grind
  rw [f1, Nat.mul_comm v d]; omega
theorem twice_low {a d H r : Nat} (hd : 0 < d) (hH : 0 < H) (h2 : r = a / H % d) : r * H + a % H < d * H := by
  have l1 := Nat.mod_lt a hH
  have : (r + 1) * H ≤ d * H := Nat.mul_le_mul_right _ (by rw [h2]; exact Nat.mod_lt _ hd)
  rw [Nat.add_mul] at this; omega
theorem twice_high {a d H : Nat} (hH : 0 < H) (h : a < d * (H * H)) : a / H < d * H := by
  rw [← Nat.mul_assoc] at h
  exact (Nat.div_lt_iff_lt_mul hH).2 h
theorem pow_B2 (h : Nat) : 4294967296 ^ (2 * h) = 4294967296 ^ h * 4294967296 ^ h := by rw [Nat.two_mul, Nat.pow_add]
end Go.Proofs.YtfcfejlffmddnaaGreatDoor
end
