/- Package nat, its reference and its laws' helpers, part 13 (NDC NDD NDE NDF). -/
import Derived.Test.YtfcfejlffmddnaaGreatDoorTie
import Derived.Test.YtfcfejlffmddnaaGreatDoorCards
import Derived.ProofKit
import Derived.OpenShut
import Derived.LaidMore
import Derived.Lay
import Derived.SevenTiedAt
import Derived.Stop.Joined
import Derived.Lib.LaidU8
import Derived.ChangeSlices
import Derived.Below
import Derived.ChangeOld
import Derived.Lib.SmallJoins
import Derived.WideShapes
import Derived.Test.YtfcfejlffmddnaaGreatDoorM12
section
/- The law's helpers: numbers; the examples. -/
namespace Go.Proofs.YtfcfejlffmddnaaGreatDoor
open Go.RowKit
set_option linter.unusedSimpArgs false
set_option linter.unusedVariables false

variable {w0 w : World} {l : List (Option Addr × Nat × Nat × Nat)}
set_option maxHeartbeats 1000000 in
theorem numbers_calls (m b n c : Nat) (vs : List (Option Addr × Nat × Nat × List Int)) (w : World) (hL : Lists w b n vs) (hn : n ≤ 9223372036854775807) (bv : Bool) (hb : Hid ((vs.all fun p => decide (p.2.1 ≤ m) && validB p.2.2.2) = bv)) :
    Calls Tryz.prog 39 #[.int .i64 m, .slice (some ⟨b, 0, none⟩) n c] w fun e w' => e = .returned (.bool bv) ∧ w = w' := by
  have HL := Lib.hid hL
  clear hL
  go_enter Tryz.func39, Tryz.ntmps39
  go_wp2_with fail
  go_loop [5] (fun v => ∃ i : Nat, i ≤ n ∧ v = .int .i64 i ∧ Hid (((vs.take i).all fun p => decide (p.2.1 ≤ m) && validB p.2.2.2) = true)) (fun v => n - (intOf v).toNat)
  case atStart => exact ⟨0, Nat.zero_le _, rfl, Lib.hid (by simp)⟩
  case round =>
    obtain ⟨i, hi, rfl, HA⟩ := hrel
    by_cases hlt : i < n
    · obtain ⟨p, hp⟩ : ∃ p, vs[i]? = some p := ⟨_, List.getElem?_eq_getElem (by rw [HL.out.len]; exact hlt)⟩
      obtain ⟨A, k, c', g⟩ := p
      have hcell := HL.out.cell i _ hp
      obtain ⟨h1, h2, h3⟩ := HL.out.rd _ (List.mem_of_getElem? hp)
      dsimp only at hcell h1 h2 h3
      obtain ⟨v1, hv1⟩ : ∃ v, decide (k ≤ m) = v := ⟨_, rfl⟩
      obtain ⟨v2, hv2⟩ : ∃ v, validB g = v := ⟨_, rfl⟩
      have HL1 := Lib.hid (light_calls A k c' m w v1 (Lib.hid hv1))
      have HV1 := Lib.hid (valid_calls A c' k g w h1 h2 h3 v2 (Lib.hid hv2))
      have htk : vs.take (i + 1) = vs.take i ++ [(A, k, c', g)] := by rw [List.take_add_one, hp]; rfl
      have HTK := Lib.hid htk
      have HB1 := Lib.hid hv1
      have HB2 := Lib.hid hv2
      have HP := Lib.hid hp
      have hfalse : (v1 && v2) = false → bv = false := fun h => by
        rw [← hb.out, List.all_eq_false]
        exact ⟨_, List.mem_of_getElem? hp, by dsimp only; rw [hv1, hv2, h]; simp⟩
      clear h1 h2 h3 hv1 hv2 htk hp
      cases v1
      · obtain rfl := hfalse rfl
        clear hfalse
        go_wp2_with fail
        refine HL1.out.mono ?_
        rintro e w' ⟨rfl, rfl⟩
        go_wp2_with fail
        go_ret
        exact ⟨rfl, rfl⟩
      · cases v2
        · obtain rfl := hfalse rfl
          clear hfalse
          go_wp2_with fail
          refine HL1.out.mono ?_
          rintro e w' ⟨rfl, rfl⟩
          go_wp2_with fail
          refine HV1.out.mono ?_
          rintro e w' ⟨rfl, rfl⟩
          go_wp2_with fail
          go_ret
          exact ⟨rfl, rfl⟩
        · clear hfalse
          go_wp2_with fail
          refine HL1.out.mono ?_
          rintro e w' ⟨rfl, rfl⟩
          go_wp2_with fail
          refine HV1.out.mono ?_
          rintro e w' ⟨rfl, rfl⟩
          go_wp2_with fail
          go_round
          case rel => exact ⟨i + 1, by omega, by go_num, Lib.hid (by rw [HTK.out, List.all_append, HA.out]; simp only [List.all_cons, List.all_nil]; rw [HB1.out, HB2.out]; rfl)⟩
          case measure => simp [intOf]; omega
    · obtain rfl : i = n := by omega
      have hA : (vs.all fun p => decide (p.2.1 ≤ m) && validB p.2.2.2) = true := by
        have := HA.out
        rwa [List.take_of_length_le (by rw [HL.out.len]; exact Nat.le_refl _)] at this
      obtain rfl : bv = true := by rw [← hb.out, hA]
      clear hA
      go_wp2_with fail
      go_ret
      exact ⟨rfl, rfl⟩
/-! ### Numbers typed out -/
theorem dg_two {a b : Nat} (ha : a < 4294967296) (hb : b < 4294967296) (h0 : b ≠ 0) : dg (a + 4294967296 * b) = [(a : Int), (b : Int)] := by
  rw [dg_pos (by omega), show (a + 4294967296 * b) % 4294967296 = a by omega, show (a + 4294967296 * b) / 4294967296 = b by omega, dg_small h0 hb]
theorem rd_pair (w : World) (x y : Int) : Rd .u32 (w.alloc (.cells #[.int .u32 x, .int .u32 y] 57)) (some ⟨w.heap.size, 0, none⟩) [x, y] := by
  intro _
  refine ⟨_, 0, rfl, fun j z hz => ?_⟩
  rw [Lib.cell_of_heap (World.alloc_heap_new w _)]
  match j, hz with
  | 0, hz => simp at hz; subst hz; rfl
  | 1, hz => simp at hz; subst hz; rfl
theorem Has.pair (H : Has w0 w l) (a b : Nat) (ha : a < 4294967296) (hb : b < 4294967296) (h0 : b ≠ 0) : Has w0 (w.alloc (.cells #[.int .u32 a, .int .u32 b] 57)) ((some ⟨w.heap.size, 0, none⟩, 2, 2, a + 4294967296 * b) :: l) := by
  refine (H.below ((Below.refl _ _).alloc (Nat.le_refl _) _)).cons ?_ (by rw [dg_two ha hb h0]; rfl) (Nat.le_refl _) (by omega)
  rw [dg_two ha hb h0]
  exact rd_pair w a b
theorem Has.zero (H : Has w0 w l) : Has w0 w ((none, 0, 0, 0) :: l) := H.cons (by rw [dg_zero]; exact Rd.nil) (by rw [dg_zero]; rfl) (Nat.le_refl _) (by omega)
theorem giv_lit {n : Nat} (h : n < 4294967296 ^ 8) : giv n = (0, n) := giv_ok (Nat.le_trans (len_of_lt h) (by decide))
theorem dec_ex : S (Lib.decDigits 1267650600228229401496703205376) = ⟨#[49, 50, 54, 55, 54, 53, 48, 54, 48, 48, 50, 50, 56, 50, 50, 57, 52, 48, 49, 52, 57, 54, 55, 48, 51, 50, 48, 53, 51, 55, 54]⟩ := by
  have h : Lib.nDigits 1267650600228229401496703205376 = 31 := Lib.nDigits_unique 30 _ (by decide) (by decide)
  rw [S, Lib.decDigits_eq, h]
  decide +kernel
end Go.Proofs.YtfcfejlffmddnaaGreatDoor
end
section
/- The law's helpers: sanity. -/
namespace Go.Proofs.YtfcfejlffmddnaaGreatDoor
open Go.RowKit
set_option linter.unusedSimpArgs false
set_option linter.unusedVariables false

theorem parse_ex : parO (L ⟨#[48, 48, 55]⟩) = (6, 0) := by decide +kernel
set_option maxRecDepth 100000 in
set_option maxHeartbeats 2000000 in
theorem sanity_calls (w : World) (hT : Tabs w) : Calls Tryz.prog 20 #[] w fun e w' => e = .returned (.bool true) ∧ Below w.heap.size w w' := by
  have HT := Lib.hid hT
  have h0 := (Has.nil w).pair 4294967295 4294967295 (by decide) (by decide) (by decide)
  have h1 := h0.one 10 (by decide) (by decide)
  have H1 := Lib.hid h1
  clear h0 h1 hT
  go_enter Tryz.func20, Tryz.ntmps20
  go_wp2_with fail
  refine (Div_x H1.out _ 2 2 _ _ 1 1 10 (by simp; rfl) (by simp) (by decide) (by decide) 0 1844674407370955161 5 (Lib.hid (by decide +kernel))).mono ?_
  rintro e w1 ⟨A1, k1, c1, A2, k2, c2, rfl, b1, b2, h1⟩
  clear H1
  have H2 := Lib.hid (h1.one 2 (by decide) (by decide))
  clear h1
  go_wp2_with fail
  refine (Pow_x H2.out _ 1 1 2 100 (by simp) (by decide) 0 1267650600228229401496703205376 (Lib.hid (by unfold powO; rw [if_neg (by decide)]; exact giv_lit (by decide)))).mono ?_
  rintro e w2 ⟨A3, k3, c3, rfl, b3, h3⟩
  have H3 := Lib.hid h3
  clear h3 H2
  have HTX := Lib.hid (Text_good w2 (HT.out.below H3.out.b) A3 k3 c3 1267650600228229401496703205376 (H3.out.just (by simp)) b3)
  rw [dec_ex] at HTX
  go_wp2_with fail
  refine HTX.out.mono ?_
  rintro e w3 ⟨rfl, hb3⟩
  have H4 := Lib.hid ((H3.out.below hb3).one 99 (by decide) (by decide))
  clear HTX hb3 H3
  go_wp2_with fail
  refine (Root_x H4.out _ 1 1 99 2 (by simp) (by decide) (by decide) (by decide)).mono ?_
  rintro e w4 ⟨r, hr, A4, k4, c4, A5, k5, c5, rfl, b4, b5, h5⟩
  obtain rfl : r = 9 := root_unique hr.out (by decide)
  have H5 := Lib.hid ((h5.one 1 (by decide) (by decide)).zero)
  clear h5 H4 hr
  go_wp2_with fail
  refine (Div_x H5.out _ 1 1 1 _ 0 0 0 (by simp) (by simp) (by decide) (by decide) 8 0 0 (Lib.hid (by decide +kernel))).mono ?_
  rintro e w5 ⟨A6, k6, c6, A7, k7, c7, rfl, b6, b7, h7⟩
  have H7 := Lib.hid h7
  clear h7 H5
  go_wp2_with fail
  refine (rof_h H7.out 1844674407370955161 (by decide)).mono ?_
  rintro e w6 ⟨A8, k8, c8, n8, rfl, hn8, b8, h8⟩
  obtain rfl : n8 = 1844674407370955161 := hn8.out
  have H8 := Lib.hid h8
  clear h8 H7 hn8
  go_wp2_with fail
  refine (rsame_h H8.out A1 k1 c1 1844674407370955161 A8 k8 c8 1844674407370955161 (by simp) (by simp) (by omega) (by omega) true (Lib.hid (by decide))).mono ?_
  rintro e w7 ⟨rfl, h⟩
  have H9 := Lib.hid h
  clear h H8
  have HL := Lib.hid (H9.out.one 5 (by decide) (by decide))
  clear H9
  go_wp2_with fail
  refine (rsame_h HL.out A2 k2 c2 5 _ 1 1 5 (by simp) (by simp) (by omega) (by omega) true (Lib.hid (by decide))).mono ?_
  rintro e w8 ⟨rfl, h⟩
  have H10 := Lib.hid h
  clear h HL
  have HL := Lib.hid (H10.out.one 9 (by decide) (by decide))
  clear H10
  go_wp2_with fail
  refine (rsame_h HL.out A4 k4 c4 9 _ 1 1 9 (by simp) (by simp) (by omega) (by omega) true (Lib.hid (by decide))).mono ?_
  rintro e w9 ⟨rfl, h⟩
  have H11 := Lib.hid h
  clear h HL
  have HL := Lib.hid (H11.out.one 18 (by decide) (by decide))
  clear H11
  go_wp2_with fail
  refine (rsame_h HL.out A5 k5 c5 (99 - 9 ^ 2) _ 1 1 18 (by simp) (by simp) (by omega) (by omega) true (Lib.hid (by decide))).mono ?_
  rintro e w10 ⟨rfl, h⟩
  have H12 := Lib.hid h
  clear h HL
  have HL := Lib.hid ((H12.out.one 4294967295 (by decide) (by decide)).one 4294967295 (by decide) (by decide))
  clear H12
  go_wp2_with fail
  refine (Mul_x HL.out _ 1 1 4294967295 _ 1 1 4294967295 (by simp) (by simp) (by decide) (by decide) 0 18446744065119617025 (Lib.hid (giv_lit (by decide)))).mono ?_
  rintro e w11 ⟨A9, k9, c9, rfl, b9, h9⟩
  have H13 := Lib.hid ((h9.one 12 (by decide) (by decide)).one 18 (by decide) (by decide))
  clear h9 HL
  go_wp2_with fail
  refine (Gcd_x H13.out _ 1 1 12 _ 1 1 18 (by simp) (by simp) (by decide) (by decide) 0 6 (Lib.hid (giv_lit (by decide)))).mono ?_
  rintro e w12 ⟨A10, k10, c10, rfl, b10, h10⟩
  have H14 := Lib.hid ((h10.one 1 (by decide) (by decide)).one 2 (by decide) (by decide))
  clear h10 H13
  go_wp2_with fail
  refine (Sub_x H14.out _ 1 1 1 _ 1 1 2 (by simp) (by simp) (by decide) (by decide) 3 0 (Lib.hid (by decide +kernel))).mono ?_
  rintro e w13 ⟨A11, k11, c11, rfl, b11, h11⟩
  have H15 := Lib.hid h11
  clear h11 H14
  go_wp2_with fail
  refine (Parse_x H15.out ⟨#[48, 48, 55]⟩ (by decide) 6 0 (Lib.hid parse_ex)).mono ?_
  rintro e w14 ⟨A12, k12, c12, rfl, b12, h12⟩
  have H16 := Lib.hid (h12.pair 1 4294967294 (by decide) (by decide) (by decide))
  clear h12 H15
  go_wp2_with fail
  refine (rsame_h H16.out A9 k9 c9 18446744065119617025 _ 2 2 18446744065119617025 (by simp) (by simp) (by omega) (by omega) true (Lib.hid (by decide))).mono ?_
  rintro e w15 ⟨rfl, h⟩
  have H17 := Lib.hid (h.one 6 (by decide) (by decide))
  clear h H16
  go_wp2_with fail
  refine (rsame_h H17.out A10 k10 c10 6 _ 1 1 6 (by simp) (by simp) (by omega) (by omega) true (Lib.hid (by decide))).mono ?_
  rintro e w16 ⟨rfl, h⟩
  have HV := Lib.hid (valid_calls _ 2 2 [5, 0] _ rfl (by decide) (rd_pair w16 5 0) false (Lib.hid (by decide)))
  have HB := Lib.hid (h.b.alloc h.b.size (.cells #[.int .u32 5, .int .u32 0] 57))
  clear h H17
  go_wp2_with fail
  refine HV.out.mono ?_
  rintro e w17 ⟨rfl, rfl⟩
  have hv2 := valid_calls _ 2 2 [0, 1] _ rfl (by decide) (rd_pair (w16.alloc (.cells #[.int .u32 5, .int .u32 0] 57)) 0 1) true (Lib.hid (by decide))
  rw [World.size_alloc] at hv2
  have HV2 := Lib.hid hv2
  have HB2 := Lib.hid (HB.out.alloc HB.out.size (.cells #[.int .u32 0, .int .u32 1] 57))
  clear HV HB hv2
  go_wp2_with fail
  refine HV2.out.mono ?_
  rintro e w18 ⟨rfl, rfl⟩
  go_wp2_with fail
  go_ret
  exact ⟨rfl, HB2.out⟩
end Go.Proofs.YtfcfejlffmddnaaGreatDoor
end
section
/- Rows: what comes in; the tables; the witness. -/
namespace Go.Proofs.YtfcfejlffmddnaaGreatDoor
open Go.ChangeShapes Go.WideShapes Go.ChangeAt Go.RowKit Go.Joins
open Go.ChangeMaps (open_string shut_string)
set_option linter.unusedSimpArgs false
set_option linter.unusedVariables false
set_option linter.constructorNameAsVariable false
set_option maxRecDepth 100000

/-- A list that comes in. -/
structure Inp (w : World) (A : Option Addr) (k c : Nat) (g : List Int) : Prop where
  rd : Rd .u32 w A g
  len : g.length = k
  cap : k ≤ c
  capm : c ≤ 9223372036854775807
  ok : dgs g
theorem Inp.below {w w' : World} {A : Option Addr} {k c : Nat} {g : List Int} (h : Inp w A k c g) (hb : Below w.heap.size w w') : Inp w' A k c g := ⟨h.rd.below hb, h.len, h.cap, h.capm, h.ok⟩
theorem Inp.lim {w : World} {A : Option Addr} {k c : Nat} {g : List Int} (h : Inp w A k c g) : k ≤ 9223372036854775807 := Nat.le_trans h.cap h.capm
theorem Inp.num {w0 w : World} {l : List (Option Addr × Nat × Nat × Nat)} {A : Option Addr} {k c : Nat} {g : List Int} (h : Inp w A k c g) (H : Has w0 w l) (hv : validB g = true) : ∃ x, g = dg x ∧ k ≤ 1024 ∧ Has w0 w ((A, k, c, x) :: l) := by
  obtain ⟨x, rfl, hx⟩ := validB_num h.ok hv
  exact ⟨x, rfl, by rw [← h.len]; exact hx, H.cons h.rd h.len h.cap h.capm⟩
theorem own : ownKnob Tryz.prog.godebug = none := by kernel_rfl
theorem laidOut : laidOutB Tryz.prog = true := by kernel_rfl
theorem wf_u32 {n : Int} (h : (Lit.int .u32 n).wf = true) : 0 ≤ n ∧ n < 4294967296 := by
  simp [Lit.wf, IntKind.min, IntKind.max, IntKind.signed, IntKind.bits] at h
  omega
theorem open_nat {H : Type} {enc : TypeId × Value → H} {W : World} {base : Nat} {v : Value} {d : DataW H} {p : List MemPlace} (hv : Value.okWide Tryz.prog W .any base 23 v) (h : DataW.Trod enc Tryz.prog W 0 (fun _ => true) true 23 v d p) :
    ∃ (A : Option Addr) (k c : Nat) (g : List Int), v = .slice A k c ∧ Inp W A k c g := by
  obtain ⟨a0, l0, c0, rfl⟩ := okWide_slice Tryz.underlying23 hv
  obtain ⟨n, h⟩ := h
  have h' : DataW.trod enc Tryz.prog W 0 (fun _ => true) true n 23 [.slice a0 l0 c0] = some (d, p) := h
  rcases open_ints Tryz.underlying23 Tryz.underlying57 (by kernel_rfl) h' with ⟨e, _⟩ | ⟨a, len, cap, zs, e, _, hl, hm, hz, _, hcell, hwf⟩
  · simp only [List.cons.injEq, and_true, Value.slice.injEq] at e
    obtain ⟨rfl, rfl, rfl⟩ := e
    exact ⟨none, 0, 0, [], rfl, Rd.nil, rfl, Nat.le_refl _, by omega, dgs_nil⟩
  · simp only [List.cons.injEq, and_true, Value.slice.injEq] at e
    obtain ⟨rfl, rfl, rfl⟩ := e
    have hz' : zs.length = c0 := by simpa using hz
    refine ⟨some a, l0, c0, zs.take l0, rfl, fun hne => ?_, by rw [List.length_take]; omega, hl, by unfold maxLen at hm; omega, fun x hx => wf_u32 (hwf x (List.mem_of_mem_take hx))⟩
    have hl0 : 0 < l0 := by
      rcases Nat.eq_zero_or_pos l0 with h | h
      · subst h; simp at hne
      · exact h
    obtain ⟨b, off, spot⟩ := a
    have hc := hcell 0 (by omega)
    have hspot : spot = none := by simpa [Addr.add] using World.cell?_spot hc
    subst hspot
    refine ⟨b, off, rfl, fun j y hy => ?_⟩
    rw [List.getElem?_take] at hy
    split at hy
    · have hj := (List.getElem?_eq_some_iff.1 hy).1
      have := hcell j hj
      rw [List.getD_eq_getElem?_getD, hy] at this
      rwa [show (⟨b, off, none⟩ : Addr).add j = ⟨b, off + j, none⟩ from by unfold Addr.add; split <;> simp_all] at this
    · cases hy
/-! ### The tables -/
theorem tabIs_reads {W : World} {name : String} {k : IntKind} {zs : List Int} {g : Nat} {t e : TypeId} {n : Nat}
    (hg : Tryz.prog.globalNamed name = some g) (hty : (Tryz.prog.globals[g]?).map (·.type) = some t) (ht : Tryz.prog.underlying t = some (.array n e)) (he : Tryz.prog.underlying e = some (.int k)) (hce : Tryz.prog.cellsOf e = 1) (hct : Tryz.prog.cellsOf t = n)
    (h : Lib.VarReads Tryz.prog W name (Lib.tabData k zs)) : Lib.TabIs Tryz.prog W name k zs := by
  obtain ⟨g', t', cs, fuel, p, hg', ht', hvar, hd⟩ := h
  obtain rfl := Option.some.inj (hg.symm.trans hg')
  obtain rfl := Option.some.inj (hty.symm.trans ht')
  unfold Lib.TabIs
  rw [hvar, ← Lib.cells_of_tab ht he hce hct hd]
theorem de_eq : (Rows.laid_math_bits_deBruijn32tab : DataW Unit) = Lib.tabData .u8 (Lib.deBruijn32tab.map fun n : Nat => (n : Int)) := by kernel_rfl
theorem pow_eq : (Rows.laid_internal_strconv_uint64pow10 : DataW Unit) = Lib.tabData .u64 Lib.pow10Tab := by kernel_rfl
abbrev laidAll : List (String × DataW Unit) := [("math/bits.deBruijn32tab", Rows.laid_math_bits_deBruijn32tab), ("math/bits.deBruijn64tab", Rows.laid_math_bits_deBruijn64tab), ("internal/strconv.uint64pow10", Rows.laid_internal_strconv_uint64pow10), ("unicode/utf8.acceptRanges", Rows.laid_unicode_utf8_acceptRanges), ("strconv.ErrRange", Rows.laid_strconv_ErrRange), ("strconv.ErrSyntax", Rows.laid_strconv_ErrSyntax), ("unicode/utf8.first", Rows.laid_unicode_utf8_first)]
theorem tabs_of_laid {W : World} (h : laidMetH Tryz.prog laidAll W) : Tabs W := by
  rw [MakeChecks.laidMetH_plain _ _ _ (by kernel_rfl)] at h
  have h1 : Lib.VarReads Tryz.prog W "math/bits.deBruijn32tab" (Lib.tabData .u8 (Lib.deBruijn32tab.map fun n : Nat => (n : Int))) := by rw [← de_eq]; exact Lib.laidMet.reads h (.head _)
  have h2 : Lib.VarReads Tryz.prog W "internal/strconv.uint64pow10" (Lib.tabData .u64 Lib.pow10Tab) := by rw [← pow_eq]; exact Lib.laidMet.reads h (.tail _ (.tail _ (.head _)))
  have t1 := tabIs_reads (g := 0) (t := 146) (e := 5) (n := 32) (by kernel_rfl) (by kernel_rfl) (by kernel_rfl) (by kernel_rfl) (by kernel_rfl) (by kernel_rfl) h1
  have t2 := tabIs_reads (g := 1) (t := 178) (e := 59) (n := 20) (by kernel_rfl) (by kernel_rfl) (by kernel_rfl) (by kernel_rfl) (by kernel_rfl) (by kernel_rfl) h2
  refine ⟨fun j hj => ?_, Lib.tabBelow_of_tabIs t2⟩
  have := Lib.TabIs.cell t1 (g := 0) (by kernel_rfl) j (by rw [List.length_map]; exact hj)
  rw [this]
  congr 2
  rw [List.getD_eq_getElem?_getD, List.getElem?_map, List.getD_eq_getElem?_getD]
  cases Lib.deBruijn32tab[j]? <;> rfl
theorem laid_met (os : Os) (args : Array Value) : laidMetH Tryz.prog laidAll ((World.laidAll Tryz.prog os laidAll).forCall (fun _ _ => 0) ⟨#[], args, []⟩).memory := by
  rw [MakeChecks.laidMetH_plain _ _ _ (by kernel_rfl)]; exact laidMet_laidAll _ (by kernel_rfl) (by kernel_rfl)
theorem laid_shaped (os : Os) (args : Array Value) : ((World.laidAll Tryz.prog os laidAll).forCall (fun _ _ => 0) ⟨#[], args, []⟩).Shaped Tryz.prog :=
  World.shaped_of_ZipB (by kernel_rfl) (by kernel_rfl)
end Go.Proofs.YtfcfejlffmddnaaGreatDoor
end
section
/- The exported functions on lists that come in, numbers or none. -/
namespace Go.Proofs.YtfcfejlffmddnaaGreatDoor
open Go.RowKit
set_option linter.unusedSimpArgs false
set_option linter.unusedVariables false
set_option linter.constructorNameAsVariable false

variable {w0 w : World} {l : List (Option Addr × Nat × Nat × Nat)}
open Classical in
/-- The number of a list. -/
noncomputable def un (g : List Int) : Nat := if h : ∃ n, g = dg n then Classical.choose h else 0
theorem un_dg (n : Nat) : un (dg n) = n := by
  have h : ∃ m, dg n = dg m := ⟨n, rfl⟩
  unfold un
  rw [dif_pos h]
  exact (dg_inj (Classical.choose_spec h)).symm
theorem Gave.keep {l' : List (Option Addr × Nat × Nat × Nat)} (hs : ∀ p, p ∈ l → p ∈ l') {x : Int} {n : Nat} {e : Ending} {w' : World} (h : Gave w0 l' x n e w') : Gave w0 l x n e w' := by
  obtain ⟨A, k, c, rfl, hk, h⟩ := h
  exact ⟨A, k, c, rfl, hk, h.keep (fun p hp => by
    rcases List.mem_cons.1 hp with rfl | hp
    · exact .head _
    · exact .tail _ (hs p hp))⟩
theorem Gave2.keep {l' : List (Option Addr × Nat × Nat × Nat)} (hs : ∀ p, p ∈ l → p ∈ l') {x : Int} {n m : Nat} {e : Ending} {w' : World} (h : Gave2 w0 l' x n m e w') : Gave2 w0 l x n m e w' := by
  obtain ⟨A, k, c, A', k', c', rfl, hk, hk', h⟩ := h
  exact ⟨A, k, c, A', k', c', rfl, hk, hk', h.keep (fun p hp => by
    rcases List.mem_cons.1 hp with rfl | hp
    · exact .head _
    · rcases List.mem_cons.1 hp with rfl | hp
      · exact .tail _ (.head _)
      · exact .tail _ (.tail _ (hs p hp)))⟩
theorem mem2 {p a b : Option Addr × Nat × Nat × Nat} (h : p ∈ l) : p ∈ a :: b :: l := .tail _ (.tail _ h)
theorem mem1 {p a : Option Addr × Nat × Nat × Nat} (h : p ∈ l) : p ∈ a :: l := .tail _ h
/-- The slice of the number 0 is empty. -/
theorem Has.none (H : Has w0 w l) {A : Option Addr} {k c : Nat} (h : (A, k, c, 0) ∈ l) : k = 0 := by
  have := H.len h
  rw [dg_zero] at this
  exact this.symm
noncomputable def mulL (g1 g2 : List Int) : Int × Nat := if validB g1 && validB g2 then (fun a b => giv (a * b)) (un g1) (un g2) else (1, 0)
theorem mulL_num (a b : Nat) (h : (validB (dg a) && validB (dg b)) = true) : mulL (dg a) (dg b) = giv (a * b) := by
  rw [mulL, if_pos h, un_dg, un_dg]
theorem Mul_l (H : Has w0 w l) (A1 : Option Addr) (k1 c1 : Nat) (g1 : List Int) (A2 : Option Addr) (k2 c2 : Nat) (g2 : List Int) (i1 : Inp w A1 k1 c1 g1) (i2 : Inp w A2 k2 c2 g2) (x : Int) (n : Nat) (hx : Hid (mulL g1 g2 = (x, n))) :
    Calls Tryz.prog 21 #[.slice A1 k1 c1, .slice A2 k2 c2] w (Gave w0 l x n) := by
  by_cases hv : (validB g1 && validB g2) = true
  · rw [Bool.and_eq_true] at hv
    obtain ⟨a, rfl, ha, H1⟩ := i1.num H hv.1
    obtain ⟨b, rfl, hb, H2⟩ := i2.num H1 hv.2
    have hx' := hx.out
    rw [mulL_num _ _ (by rw [hv.1, hv.2]; rfl)] at hx'
    exact (Mul_x H2 A1 k1 c1 a A2 k2 c2 b (.tail _ (.head _)) (.head _) ha hb x n (Lib.hid hx')).mono (fun e w' h => h.keep (fun p hp => mem2 hp))
  · have hv' : (validB g1 && validB g2) = false := by simpa using hv
    have hx' := hx.out
    rw [mulL, if_neg hv] at hx'
    cases hx'
    exact (Mul_bad A1 k1 c1 g1 A2 k2 c2 g2 w i1.rd i2.rd i1.len i2.len i1.lim i2.lim (Lib.hid hv')).mono (fun e w' h => h.gave H)
theorem School_l (H : Has w0 w l) (A1 : Option Addr) (k1 c1 : Nat) (g1 : List Int) (A2 : Option Addr) (k2 c2 : Nat) (g2 : List Int) (i1 : Inp w A1 k1 c1 g1) (i2 : Inp w A2 k2 c2 g2) (x : Int) (n : Nat) (hx : Hid (mulL g1 g2 = (x, n))) :
    Calls Tryz.prog 48 #[.slice A1 k1 c1, .slice A2 k2 c2] w (Gave w0 l x n) := by
  by_cases hv : (validB g1 && validB g2) = true
  · rw [Bool.and_eq_true] at hv
    obtain ⟨a, rfl, ha, H1⟩ := i1.num H hv.1
    obtain ⟨b, rfl, hb, H2⟩ := i2.num H1 hv.2
    have hx' := hx.out
    rw [mulL_num _ _ (by rw [hv.1, hv.2]; rfl)] at hx'
    exact (School_x H2 A1 k1 c1 a A2 k2 c2 b (.tail _ (.head _)) (.head _) ha hb x n (Lib.hid hx')).mono (fun e w' h => h.keep (fun p hp => mem2 hp))
  · have hv' : (validB g1 && validB g2) = false := by simpa using hv
    have hx' := hx.out
    rw [mulL, if_neg hv] at hx'
    cases hx'
    exact (School_bad A1 k1 c1 g1 A2 k2 c2 g2 w i1.rd i2.rd i1.len i2.len i1.lim i2.lim (Lib.hid hv')).mono (fun e w' h => h.gave H)
noncomputable def addL (g1 g2 : List Int) : Int × Nat := if validB g1 && validB g2 then (fun a b => giv (a + b)) (un g1) (un g2) else (1, 0)
theorem addL_num (a b : Nat) (h : (validB (dg a) && validB (dg b)) = true) : addL (dg a) (dg b) = giv (a + b) := by
  rw [addL, if_pos h, un_dg, un_dg]
theorem Add_l (H : Has w0 w l) (A1 : Option Addr) (k1 c1 : Nat) (g1 : List Int) (A2 : Option Addr) (k2 c2 : Nat) (g2 : List Int) (i1 : Inp w A1 k1 c1 g1) (i2 : Inp w A2 k2 c2 g2) (x : Int) (n : Nat) (hx : Hid (addL g1 g2 = (x, n))) :
    Calls Tryz.prog 40 #[.slice A1 k1 c1, .slice A2 k2 c2] w (Gave w0 l x n) := by
  by_cases hv : (validB g1 && validB g2) = true
  · rw [Bool.and_eq_true] at hv
    obtain ⟨a, rfl, ha, H1⟩ := i1.num H hv.1
    obtain ⟨b, rfl, hb, H2⟩ := i2.num H1 hv.2
    have hx' := hx.out
    rw [addL_num _ _ (by rw [hv.1, hv.2]; rfl)] at hx'
    exact (Add_x H2 A1 k1 c1 a A2 k2 c2 b (.tail _ (.head _)) (.head _) ha hb x n (Lib.hid hx')).mono (fun e w' h => h.keep (fun p hp => mem2 hp))
  · have hv' : (validB g1 && validB g2) = false := by simpa using hv
    have hx' := hx.out
    rw [addL, if_neg hv] at hx'
    cases hx'
    exact (Add_bad A1 k1 c1 g1 A2 k2 c2 g2 w i1.rd i2.rd i1.len i2.len i1.lim i2.lim (Lib.hid hv')).mono (fun e w' h => h.gave H)
noncomputable def subL (g1 g2 : List Int) : Int × Nat := if validB g1 && validB g2 then (fun a b => subO a b) (un g1) (un g2) else (1, 0)
theorem subL_num (a b : Nat) (h : (validB (dg a) && validB (dg b)) = true) : subL (dg a) (dg b) = subO a b := by
  rw [subL, if_pos h, un_dg, un_dg]
theorem Sub_l (H : Has w0 w l) (A1 : Option Addr) (k1 c1 : Nat) (g1 : List Int) (A2 : Option Addr) (k2 c2 : Nat) (g2 : List Int) (i1 : Inp w A1 k1 c1 g1) (i2 : Inp w A2 k2 c2 g2) (x : Int) (n : Nat) (hx : Hid (subL g1 g2 = (x, n))) :
    Calls Tryz.prog 41 #[.slice A1 k1 c1, .slice A2 k2 c2] w (Gave w0 l x n) := by
  by_cases hv : (validB g1 && validB g2) = true
  · rw [Bool.and_eq_true] at hv
    obtain ⟨a, rfl, ha, H1⟩ := i1.num H hv.1
    obtain ⟨b, rfl, hb, H2⟩ := i2.num H1 hv.2
    have hx' := hx.out
    rw [subL_num _ _ (by rw [hv.1, hv.2]; rfl)] at hx'
    exact (Sub_x H2 A1 k1 c1 a A2 k2 c2 b (.tail _ (.head _)) (.head _) ha hb x n (Lib.hid hx')).mono (fun e w' h => h.keep (fun p hp => mem2 hp))
  · have hv' : (validB g1 && validB g2) = false := by simpa using hv
    have hx' := hx.out
    rw [subL, if_neg hv] at hx'
    cases hx'
    exact (Sub_bad A1 k1 c1 g1 A2 k2 c2 g2 w i1.rd i2.rd i1.len i2.len i1.lim i2.lim (Lib.hid hv')).mono (fun e w' h => h.gave H)
noncomputable def gcdL (g1 g2 : List Int) : Int × Nat := if validB g1 && validB g2 then (fun a b => giv (Nat.gcd a b)) (un g1) (un g2) else (1, 0)
theorem gcdL_num (a b : Nat) (h : (validB (dg a) && validB (dg b)) = true) : gcdL (dg a) (dg b) = giv (Nat.gcd a b) := by
  rw [gcdL, if_pos h, un_dg, un_dg]
theorem Gcd_l (H : Has w0 w l) (A1 : Option Addr) (k1 c1 : Nat) (g1 : List Int) (A2 : Option Addr) (k2 c2 : Nat) (g2 : List Int) (i1 : Inp w A1 k1 c1 g1) (i2 : Inp w A2 k2 c2 g2) (x : Int) (n : Nat) (hx : Hid (gcdL g1 g2 = (x, n))) :
    Calls Tryz.prog 29 #[.slice A1 k1 c1, .slice A2 k2 c2] w (Gave w0 l x n) := by
  by_cases hv : (validB g1 && validB g2) = true
  · rw [Bool.and_eq_true] at hv
    obtain ⟨a, rfl, ha, H1⟩ := i1.num H hv.1
    obtain ⟨b, rfl, hb, H2⟩ := i2.num H1 hv.2
    have hx' := hx.out
    rw [gcdL_num _ _ (by rw [hv.1, hv.2]; rfl)] at hx'
    exact (Gcd_x H2 A1 k1 c1 a A2 k2 c2 b (.tail _ (.head _)) (.head _) ha hb x n (Lib.hid hx')).mono (fun e w' h => h.keep (fun p hp => mem2 hp))
  · have hv' : (validB g1 && validB g2) = false := by simpa using hv
    have hx' := hx.out
    rw [gcdL, if_neg hv] at hx'
    cases hx'
    exact (Gcd_bad A1 k1 c1 g1 A2 k2 c2 g2 w i1.rd i2.rd i1.len i2.len i1.lim i2.lim (Lib.hid hv')).mono (fun e w' h => h.gave H)
noncomputable def karL (g1 g2 : List Int) (cut : Int) : Int × Nat := if validB g1 && validB g2 then (fun a b => karO a b cut) (un g1) (un g2) else (1, 0)
theorem karL_num (a b : Nat) (cut : Int) (h : (validB (dg a) && validB (dg b)) = true) : karL (dg a) (dg b) cut = karO a b cut := by
  rw [karL, if_pos h, un_dg, un_dg]
theorem Karatsuba_l (H : Has w0 w l) (A1 : Option Addr) (k1 c1 : Nat) (g1 : List Int) (A2 : Option Addr) (k2 c2 : Nat) (g2 : List Int) (i1 : Inp w A1 k1 c1 g1) (i2 : Inp w A2 k2 c2 g2) (cut : Int) (x : Int) (n : Nat) (hx : Hid (karL g1 g2 cut = (x, n))) :
    Calls Tryz.prog 49 #[.slice A1 k1 c1, .slice A2 k2 c2, .int .i64 cut] w (Gave w0 l x n) := by
  by_cases hv : (validB g1 && validB g2) = true
  · rw [Bool.and_eq_true] at hv
    obtain ⟨a, rfl, ha, H1⟩ := i1.num H hv.1
    obtain ⟨b, rfl, hb, H2⟩ := i2.num H1 hv.2
    have hx' := hx.out
    rw [karL_num _ _ cut (by rw [hv.1, hv.2]; rfl)] at hx'
    exact (Karatsuba_x H2 A1 k1 c1 a A2 k2 c2 b (.tail _ (.head _)) (.head _) ha hb cut x n (Lib.hid hx')).mono (fun e w' h => h.keep (fun p hp => mem2 hp))
  · have hv' : (validB g1 && validB g2) = false := by simpa using hv
    have hx' := hx.out
    rw [karL, if_neg hv] at hx'
    cases hx'
    exact (Karatsuba_bad A1 k1 c1 g1 A2 k2 c2 g2 cut w i1.rd i2.rd i1.len i2.len i1.lim i2.lim (Lib.hid hv')).mono (fun e w' h => h.gave H)
noncomputable def divL (g1 g2 : List Int) : Int × Nat × Nat := if validB g1 && validB g2 then (fun a b => divO a b) (un g1) (un g2) else (1, 0, 0)
theorem divL_num (a b : Nat) (h : (validB (dg a) && validB (dg b)) = true) : divL (dg a) (dg b) = divO a b := by
  rw [divL, if_pos h, un_dg, un_dg]
theorem Div_l (H : Has w0 w l) (A1 : Option Addr) (k1 c1 : Nat) (g1 : List Int) (A2 : Option Addr) (k2 c2 : Nat) (g2 : List Int) (i1 : Inp w A1 k1 c1 g1) (i2 : Inp w A2 k2 c2 g2) (x : Int) (n m : Nat) (hx : Hid (divL g1 g2 = (x, n, m))) :
    Calls Tryz.prog 28 #[.slice A1 k1 c1, .slice A2 k2 c2] w (Gave2 w0 l x n m) := by
  by_cases hv : (validB g1 && validB g2) = true
  · rw [Bool.and_eq_true] at hv
    obtain ⟨a, rfl, ha, H1⟩ := i1.num H hv.1
    obtain ⟨b, rfl, hb, H2⟩ := i2.num H1 hv.2
    have hx' := hx.out
    rw [divL_num _ _ (by rw [hv.1, hv.2]; rfl)] at hx'
    exact (Div_x H2 A1 k1 c1 a A2 k2 c2 b (.tail _ (.head _)) (.head _) ha hb x n m (Lib.hid hx')).mono (fun e w' h => h.keep (fun p hp => mem2 hp))
  · have hv' : (validB g1 && validB g2) = false := by simpa using hv
    have hx' := hx.out
    rw [divL, if_neg hv] at hx'
    cases hx'
    exact (Div_bad A1 k1 c1 g1 A2 k2 c2 g2 w i1.rd i2.rd i1.len i2.len i1.lim i2.lim (Lib.hid hv')).mono (fun e w' h => h.gave H)
theorem Long_l (H : Has w0 w l) (A1 : Option Addr) (k1 c1 : Nat) (g1 : List Int) (A2 : Option Addr) (k2 c2 : Nat) (g2 : List Int) (i1 : Inp w A1 k1 c1 g1) (i2 : Inp w A2 k2 c2 g2) (x : Int) (n m : Nat) (hx : Hid (divL g1 g2 = (x, n, m))) :
    Calls Tryz.prog 61 #[.slice A1 k1 c1, .slice A2 k2 c2] w (Gave2 w0 l x n m) := by
  by_cases hv : (validB g1 && validB g2) = true
  · rw [Bool.and_eq_true] at hv
    obtain ⟨a, rfl, ha, H1⟩ := i1.num H hv.1
    obtain ⟨b, rfl, hb, H2⟩ := i2.num H1 hv.2
    have hx' := hx.out
    rw [divL_num _ _ (by rw [hv.1, hv.2]; rfl)] at hx'
    exact (Long_x H2 A1 k1 c1 a A2 k2 c2 b (.tail _ (.head _)) (.head _) ha hb x n m (Lib.hid hx')).mono (fun e w' h => h.keep (fun p hp => mem2 hp))
  · have hv' : (validB g1 && validB g2) = false := by simpa using hv
    have hx' := hx.out
    rw [divL, if_neg hv] at hx'
    cases hx'
    exact (Long_bad A1 k1 c1 g1 A2 k2 c2 g2 w i1.rd i2.rd i1.len i2.len i1.lim i2.lim (Lib.hid hv')).mono (fun e w' h => h.gave H)
theorem Newton_l (H : Has w0 w l) (A1 : Option Addr) (k1 c1 : Nat) (g1 : List Int) (A2 : Option Addr) (k2 c2 : Nat) (g2 : List Int) (i1 : Inp w A1 k1 c1 g1) (i2 : Inp w A2 k2 c2 g2) (x : Int) (n m : Nat) (hx : Hid (divL g1 g2 = (x, n, m))) :
    Calls Tryz.prog 62 #[.slice A1 k1 c1, .slice A2 k2 c2] w (Gave2 w0 l x n m) := by
  by_cases hv : (validB g1 && validB g2) = true
  · rw [Bool.and_eq_true] at hv
    obtain ⟨a, rfl, ha, H1⟩ := i1.num H hv.1
    obtain ⟨b, rfl, hb, H2⟩ := i2.num H1 hv.2
    have hx' := hx.out
    rw [divL_num _ _ (by rw [hv.1, hv.2]; rfl)] at hx'
    exact (Newton_x H2 A1 k1 c1 a A2 k2 c2 b (.tail _ (.head _)) (.head _) ha hb x n m (Lib.hid hx')).mono (fun e w' h => h.keep (fun p hp => mem2 hp))
  · have hv' : (validB g1 && validB g2) = false := by simpa using hv
    have hx' := hx.out
    rw [divL, if_neg hv] at hx'
    cases hx'
    exact (Newton_bad A1 k1 c1 g1 A2 k2 c2 g2 w i1.rd i2.rd i1.len i2.len i1.lim i2.lim (Lib.hid hv')).mono (fun e w' h => h.gave H)
noncomputable def blkL (g1 g2 : List Int) (cut : Int) : Int × Nat × Nat := if validB g1 && validB g2 then (fun a b => blkO a b cut) (un g1) (un g2) else (1, 0, 0)
theorem blkL_num (a b : Nat) (cut : Int) (h : (validB (dg a) && validB (dg b)) = true) : blkL (dg a) (dg b) cut = blkO a b cut := by
  rw [blkL, if_pos h, un_dg, un_dg]
theorem Blocks_l (H : Has w0 w l) (A1 : Option Addr) (k1 c1 : Nat) (g1 : List Int) (A2 : Option Addr) (k2 c2 : Nat) (g2 : List Int) (i1 : Inp w A1 k1 c1 g1) (i2 : Inp w A2 k2 c2 g2) (cut : Int) (x : Int) (n m : Nat) (hx : Hid (blkL g1 g2 cut = (x, n, m))) :
    Calls Tryz.prog 63 #[.slice A1 k1 c1, .slice A2 k2 c2, .int .i64 cut] w (Gave2 w0 l x n m) := by
  by_cases hv : (validB g1 && validB g2) = true
  · rw [Bool.and_eq_true] at hv
    obtain ⟨a, rfl, ha, H1⟩ := i1.num H hv.1
    obtain ⟨b, rfl, hb, H2⟩ := i2.num H1 hv.2
    have hx' := hx.out
    rw [blkL_num _ _ cut (by rw [hv.1, hv.2]; rfl)] at hx'
    exact (Blocks_x H2 A1 k1 c1 a A2 k2 c2 b (.tail _ (.head _)) (.head _) ha hb cut x n m (Lib.hid hx')).mono (fun e w' h => h.keep (fun p hp => mem2 hp))
  · have hv' : (validB g1 && validB g2) = false := by simpa using hv
    have hx' := hx.out
    rw [blkL, if_neg hv] at hx'
    cases hx'
    exact (Blocks_bad A1 k1 c1 g1 A2 k2 c2 g2 cut w i1.rd i2.rd i1.len i2.len i1.lim i2.lim (Lib.hid hv')).mono (fun e w' h => h.gave H)
noncomputable def shlL (g1 : List Int) (n : Int) : Int × Nat := if validB g1 then (fun a => shlO a n) (un g1) else (1, 0)
theorem shlL_num (a : Nat) (n : Int) (h : validB (dg a) = true) : shlL (dg a) n = shlO a n := by
  rw [shlL, if_pos h, un_dg]
theorem Shl_l (H : Has w0 w l) (A1 : Option Addr) (k1 c1 : Nat) (g1 : List Int) (i1 : Inp w A1 k1 c1 g1) (n : Int) (x : Int) (m : Nat) (hx : Hid (shlL g1 n = (x, m))) :
    Calls Tryz.prog 50 #[.slice A1 k1 c1, .int .i64 n] w (Gave w0 l x m) := by
  by_cases hv : validB g1 = true
  · obtain ⟨a, rfl, ha, H1⟩ := i1.num H hv
    have hx' := hx.out
    rw [shlL_num _ _ hv] at hx'
    exact (Shl_x H1 A1 k1 c1 a n (.head _) ha x m (Lib.hid hx')).mono (fun e w' h => h.keep (fun p hp => mem1 hp))
  · have hv' : validB g1 = false := by simpa using hv
    have hx' := hx.out
    rw [shlL, if_neg hv] at hx'
    cases hx'
    exact (Shl_bad A1 k1 c1 g1 n w i1.rd i1.len i1.lim (Lib.hid hv')).mono (fun e w' h => h.gave H)
noncomputable def shrL (g1 : List Int) (n : Int) : Int × Nat := if validB g1 then (fun a => shrO a n) (un g1) else (1, 0)
theorem shrL_num (a : Nat) (n : Int) (h : validB (dg a) = true) : shrL (dg a) n = shrO a n := by
  rw [shrL, if_pos h, un_dg]
theorem Shr_l (H : Has w0 w l) (A1 : Option Addr) (k1 c1 : Nat) (g1 : List Int) (i1 : Inp w A1 k1 c1 g1) (n : Int) (x : Int) (m : Nat) (hx : Hid (shrL g1 n = (x, m))) :
    Calls Tryz.prog 51 #[.slice A1 k1 c1, .int .i64 n] w (Gave w0 l x m) := by
  by_cases hv : validB g1 = true
  · obtain ⟨a, rfl, ha, H1⟩ := i1.num H hv
    have hx' := hx.out
    rw [shrL_num _ _ hv] at hx'
    exact (Shr_x H1 A1 k1 c1 a n (.head _) ha x m (Lib.hid hx')).mono (fun e w' h => h.keep (fun p hp => mem1 hp))
  · have hv' : validB g1 = false := by simpa using hv
    have hx' := hx.out
    rw [shrL, if_neg hv] at hx'
    cases hx'
    exact (Shr_bad A1 k1 c1 g1 n w i1.rd i1.len i1.lim (Lib.hid hv')).mono (fun e w' h => h.gave H)
noncomputable def powL (g1 : List Int) (n : Int) : Int × Nat := if validB g1 then (fun a => powO a n) (un g1) else (1, 0)
theorem powL_num (a : Nat) (n : Int) (h : validB (dg a) = true) : powL (dg a) n = powO a n := by
  rw [powL, if_pos h, un_dg]
theorem Pow_l (H : Has w0 w l) (A1 : Option Addr) (k1 c1 : Nat) (g1 : List Int) (i1 : Inp w A1 k1 c1 g1) (n : Int) (x : Int) (m : Nat) (hx : Hid (powL g1 n = (x, m))) :
    Calls Tryz.prog 22 #[.slice A1 k1 c1, .int .i64 n] w (Gave w0 l x m) := by
  by_cases hv : validB g1 = true
  · obtain ⟨a, rfl, ha, H1⟩ := i1.num H hv
    have hx' := hx.out
    rw [powL_num _ _ hv] at hx'
    exact (Pow_x H1 A1 k1 c1 a n (.head _) ha x m (Lib.hid hx')).mono (fun e w' h => h.keep (fun p hp => mem1 hp))
  · have hv' : validB g1 = false := by simpa using hv
    have hx' := hx.out
    rw [powL, if_neg hv] at hx'
    cases hx'
    exact (Pow_bad A1 k1 c1 g1 n w i1.rd i1.len i1.lim (Lib.hid hv')).mono (fun e w' h => h.gave H)
/-- What a law answers. -/
def True1 (w : World) (e : Ending) (w' : World) : Prop := e = .returned (.bool true) ∧ Below w.heap.size w w'
theorem sanity_at (H : Hid (Has w0 w l)) (hT : Hid (Tabs w0)) : Calls Tryz.prog 20 #[] w fun e w' => e = .returned (.bool true) ∧ Hid (Has w0 w' l) :=
  (sanity_calls w (hT.out.below H.out.b)).mono (fun e w' ⟨he, hb⟩ => ⟨he, Lib.hid (H.out.below hb)⟩)
end Go.Proofs.YtfcfejlffmddnaaGreatDoor
end
