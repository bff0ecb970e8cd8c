/- The law NatRoads: its walk, its row and its card. -/
import Derived.Test.YtfcfejlffmddnaaGreatDoorM13
section
/- The law NatRoads. -/
namespace Go.Proofs.YtfcfejlffmddnaaGreatDoor
open Go.RowKit
set_option linter.unusedSimpArgs false
set_option linter.unusedVariables false
set_option linter.constructorNameAsVariable false

variable {w0 w : World} {l : List (Option Addr × Nat × Nat × Nat)}
set_option maxRecDepth 100000 in
set_option maxHeartbeats 4000000 in
theorem roads_calls (w : World) (hT : Tabs w) (A1 : Option Addr) (k1 c1 : Nat) (g1 : List Int) (A2 : Option Addr) (k2 c2 : Nat) (g2 : List Int) (i1 : Inp w A1 k1 c1 g1) (i2 : Inp w A2 k2 c2 g2) (cut : Int) :
    Calls Tryz.prog 14 #[.slice A1 k1 c1, .slice A2 k2 c2, .int .i64 cut] w (True1 w) := by
  have HT := Lib.hid hT
  have I1 := Lib.hid i1
  have I2 := Lib.hid i2
  have H := Lib.hid (Has.nil w)
  clear hT i1 i2
  by_cases q1 : k1 ≤ 1100
  case neg =>
    have L1 := light_calls A1 k1 c1 1100 w false (Lib.hid (decide_eq_false q1))
    go_enter Tryz.func14, Tryz.ntmps14
    go_wp2_with fail
    refine L1.mono ?_
    rintro e w' ⟨rfl, rfl⟩
    go_wp2_with fail
    refine (sanity_at H HT).mono ?_
    rintro e w' ⟨rfl, H'⟩
    go_wp2_with fail
    go_ret
    exact ⟨rfl, H'.out.b⟩
  by_cases q2 : k2 ≤ 1100
  case neg =>
    have L1 := light_calls A1 k1 c1 1100 w true (Lib.hid (decide_eq_true q1))
    have L2 := light_calls A2 k2 c2 1100 w false (Lib.hid (decide_eq_false q2))
    go_enter Tryz.func14, Tryz.ntmps14
    go_wp2_with fail
    refine L1.mono ?_
    rintro e w' ⟨rfl, rfl⟩
    go_wp2_with fail
    refine L2.mono ?_
    rintro e w' ⟨rfl, rfl⟩
    go_wp2_with fail
    refine (sanity_at H HT).mono ?_
    rintro e w' ⟨rfl, H'⟩
    go_wp2_with fail
    go_ret
    exact ⟨rfl, H'.out.b⟩
  have L1 := light_calls A1 k1 c1 1100 w true (Lib.hid (decide_eq_true q1))
  have L2 := light_calls A2 k2 c2 1100 w true (Lib.hid (decide_eq_true q2))
  obtain ⟨x, n, hx⟩ : ∃ x n, Hid (mulL g1 g2 = (x, n)) := ⟨_, _, Lib.hid rfl⟩
  by_cases q3 : 2 ≤ cut ∧ cut ≤ 1024
  · have d1 : decide (cut < 2) = false := decide_eq_false (by omega)
    have d2 : decide (1024 < cut) = false := decide_eq_false (by omega)
    have hk : Hid (karL g1 g2 cut = (x, n)) := Lib.hid (by have := hx.out; simp only [mulL, karL, karO] at this ⊢; simpa [q3] using this)
    clear q1 q2 q3
    go_enter Tryz.func14, Tryz.ntmps14
    go_wp2_with fail
    refine L1.mono ?_
    rintro e w' ⟨rfl, rfl⟩
    go_wp2_with fail
    refine L2.mono ?_
    rintro e w' ⟨rfl, rfl⟩
    go_wp2_with fail
    refine (Mul_l H.out A1 k1 c1 g1 A2 k2 c2 g2 I1.out I2.out x n hx).mono ?_
    rintro e w1 ⟨A3, k3, c3, rfl, b3, h⟩
    have H1 := Lib.hid h
    clear h
    go_wp2_with fail
    refine (School_l H1.out A1 k1 c1 g1 A2 k2 c2 g2 (I1.out.below H1.out.b) (I2.out.below H1.out.b) x n hx).mono ?_
    rintro e w2 ⟨A4, k4, c4, rfl, b4, h⟩
    have H2 := Lib.hid h
    clear h
    go_wp2_with fail
    refine (Karatsuba_l H2.out A1 k1 c1 g1 A2 k2 c2 g2 (I1.out.below H2.out.b) (I2.out.below H2.out.b) cut x n hk).mono ?_
    rintro e w3 ⟨A5, k5, c5, rfl, b5, h⟩
    have H3 := Lib.hid h
    clear h
    go_wp2_with fail
    refine (alike_h H3.out A3 k3 c3 n A4 k4 c4 n (by simp) (by simp) (by omega) (by omega) x x true (Lib.hid (by simp))).mono ?_
    rintro e w4 ⟨rfl, h⟩
    have H4 := Lib.hid h
    clear h
    go_wp2_with fail
    refine (sanity_at H4 HT).mono ?_
    rintro e w5 ⟨rfl, H5⟩
    go_wp2_with fail
    refine (alike_h H5.out A3 k3 c3 n A5 k5 c5 n (by simp) (by simp) (by omega) (by omega) x x true (Lib.hid (by simp))).mono ?_
    rintro e w6 ⟨rfl, h⟩
    have H6 := Lib.hid h
    clear h
    go_wp2_with fail
    go_ret
    exact ⟨rfl, H6.out.b⟩
  · have hk : Hid (karL g1 g2 cut = (1, 0)) := Lib.hid (by simp only [karL, karO]; rw [if_neg q3]; simp)
    have d1 : decide (cut < 2) = true ∨ (decide (cut < 2) = false ∧ decide (1024 < cut) = true) := by
      by_cases h : cut < 2
      · exact Or.inl (decide_eq_true h)
      · exact Or.inr ⟨decide_eq_false h, decide_eq_true (by omega)⟩
    clear q1 q2 q3
    go_enter Tryz.func14, Tryz.ntmps14
    go_wp2_with fail
    refine L1.mono ?_
    rintro e w' ⟨rfl, rfl⟩
    go_wp2_with fail
    refine L2.mono ?_
    rintro e w' ⟨rfl, rfl⟩
    go_wp2_with fail
    refine (Mul_l H.out A1 k1 c1 g1 A2 k2 c2 g2 I1.out I2.out x n hx).mono ?_
    rintro e w1 ⟨A3, k3, c3, rfl, b3, h⟩
    have H1 := Lib.hid h
    clear h
    go_wp2_with fail
    refine (School_l H1.out A1 k1 c1 g1 A2 k2 c2 g2 (I1.out.below H1.out.b) (I2.out.below H1.out.b) x n hx).mono ?_
    rintro e w2 ⟨A4, k4, c4, rfl, b4, h⟩
    have H2 := Lib.hid h
    clear h
    go_wp2_with fail
    refine (Karatsuba_l H2.out A1 k1 c1 g1 A2 k2 c2 g2 (I1.out.below H2.out.b) (I2.out.below H2.out.b) cut 1 0 hk).mono ?_
    rintro e w3 ⟨A5, k5, c5, rfl, b5, h⟩
    obtain rfl := h.none (.head _)
    have H3 := Lib.hid h
    clear h
    go_wp2_with fail
    refine (alike_h H3.out A3 k3 c3 n A4 k4 c4 n (by simp) (by simp) (by omega) (by omega) x x true (Lib.hid (by simp))).mono ?_
    rintro e w4 ⟨rfl, h⟩
    have H4 := Lib.hid h
    clear h
    rcases d1 with d1 | ⟨d1, d2⟩
    all_goals
      go_wp2_with fail
      refine (sanity_at H4 HT).mono ?_
      rintro e w5 ⟨rfl, H5⟩
      go_wp2_with fail
      refine (refused_calls A5 c5 1 1 _ true (Lib.hid (by simp))).mono ?_
      rintro e w6 ⟨rfl, rfl⟩
      go_wp2_with fail
      go_ret
      exact ⟨rfl, H5.out.b⟩
end Go.Proofs.YtfcfejlffmddnaaGreatDoor
end
section
/- The row and the card of NatRoads: for every input the law answers true, and the input reads as it did. -/
namespace Go.Proofs.YtfcfejlffmddnaaGreatDoor.NatRoadsRow
open Go.ChangeShapes Go.WideShapes Go.ChangeAt Go.RowKit Go.Joins
open Go.ChangeMaps (open_string shut_string)
set_option linter.unusedSimpArgs false
set_option linter.unusedVariables false
set_option linter.constructorNameAsVariable false

set_option maxRecDepth 100000 in
theorem lifted (os : Os) (started : os.Started) (H : Type) (enc : TypeId × Value → H) :
    ReturnsInHanded {} Tryz.checked os 14 .any (fun w args => (Rows.natRoadsSpec.pre enc Tryz.prog Tryz.f14 [] false w args ∧ laidMetH Tryz.prog laidAll w) ∧ sizedMet enc Tryz.prog Tryz.f14 (OpenSpec.ofChange Rows.natRoadsSpec) false w args)
      (Rows.natRoadsSpec.post enc Tryz.prog Tryz.f14 false true false false) := by
  refine returnsInHanded_of_change_and (C := Tryz.checked) (X := fun w _ => laidMetH Tryz.prog laidAll w) (fun _ _ _ hh h => h.of_heap hh) own started (by kernel_rfl) Tryz.func14
    (ChangeSpec.witness_shaped (enc := enc) (C := Tryz.checked) (os := os) (X := fun w _ => laidMetH Tryz.prog laidAll w) false (World.laidAll Tryz.prog os laidAll) #[.slice none 0 0, .slice none 0 0, .int .i64 0] 8 (World.laidAll_os _ _ _)
      (laid_shaped os _) (by kernel_rfl) (by kernel_rfl) (by kernel_rfl) (laid_met os _)) ?_
  intro W base args ds gs before hval0 hW _ _ hL _
  have hval : ∀ (j : Nat) t v, Tryz.f14.params[j]? = some t → args[j]? = some v → Value.okWide Tryz.prog W .any base t v := hval0
  have hW' := hW
  obtain ⟨p, q, hA0, hV, rfl, _, _⟩ := hW
  have hA : DataW.TrodAll enc Tryz.prog W 0 (fun _ => true) true Tryz.f14.params.toList args.toList ds p := hA0
  rw [Tryz.params14] at hA hval
  obtain ⟨v0, vs0, d0, ds0, p0, q0, hargs, rfl, rfl, h0, r0⟩ := trodAll_cons hA
  obtain ⟨v1, vs1, d1, ds1, p1, q1, rfl, rfl, rfl, h1, r1⟩ := trodAll_cons r0
  obtain ⟨v2, vs2, d2, ds2, p2, q2, rfl, rfl, rfl, h2, r2⟩ := trodAll_cons r1
  obtain ⟨rfl, rfl, rfl⟩ := trodAll_nil r2
  obtain rfl : args = #[v0, v1, v2] := by cases args; simp_all
  obtain ⟨rfl, rfl⟩ := trodVars_none hV
  have k0 := h0
  have lt0 : ∀ x ∈ p0, x.block < W.heap.size := by obtain ⟨m, hm⟩ := k0; exact DataW.trod_lt m _ _ _ hm
  obtain ⟨A0, n0, c0, g0, rfl, i0⟩ := open_nat (hval 0 23 v0 rfl rfl) h0
  have k1 := h1
  have lt1 : ∀ x ∈ p1, x.block < W.heap.size := by obtain ⟨m, hm⟩ := k1; exact DataW.trod_lt m _ _ _ hm
  obtain ⟨A1, n1, c1, g1, rfl, i1⟩ := open_nat (hval 1 23 v1 rfl rfl) h1
  obtain ⟨a2, rfl, rfl, rfl, w2⟩ := open_int Tryz.underlying3 (hval 2 3 v2 rfl rfl) h2
  clear hA0 hval0
  refine (roads_calls W (tabs_of_laid hL) A0 n0 c0 g0 A1 n1 c1 g1 i0 i1 a2).mono fun e W' ⟨he, bel⟩ => ?_
  subst he
  exact ⟨_, rfl, _, _, _, [], _, [], hW', trodAll_mk1 (shut_bool Tryz.underlying4 _), (trodAll_cons_mk (Below.trod laidOut (by kernel_rfl) (of_decide_eq_true (by kernel_rfl)) k0 bel lt0) (trodAll_cons_mk (Below.trod laidOut (by kernel_rfl) (of_decide_eq_true (by kernel_rfl)) k1 bel lt1) (trodAll_cons_mk (shut_int Tryz.underlying3 w2) trodAll_mk0))), rfl, bel.frame _, fun h => by cases h⟩

theorem over : Rows.NatRoadsSaid :=
  OpenClaim.holds_of_wide 14 Tryz.f14 rfl rfl rfl rfl rfl rfl rfl ⟨rfl, rfl, rfl, rfl, rfl⟩ rfl rfl rfl rfl rfl (by kernel_rfl) Tryz.func14 (by kernel_rfl)
    (of_decide_eq_true (by kernel_rfl)) (by unfold Func.isWrapper; first | (rw [if_pos (by decide +kernel)]; kernel_rfl) | (rw [if_neg (by decide +kernel)]; exact ⟨rfl, rfl⟩))
    (fun os started H enc _ => lifted os started H enc)

theorem proved : Rows.NatRoadsCardSaid :=
  Claim7.holds_tied_plain_at .later [] [.data, .data, .data, .data, .sentinel, .sentinel, .pinned] true (true, "901add128c627b7b81ebe4bfdb132afad3a53ac9268b417d7c3e47377e1d1363") true over (fun _ h => by cases h) (by kernel_rfl) (fun _ h => by cases h) natRoads_row_tie rfl ⟨rfl, rfl⟩ (by kernel_rfl) rfl
    (fun f fn hf hfn => by
      obtain rfl : f = 14 := Option.some.inj ((show Tryz.prog.funcNamed "soroban/sorobanlaw01.NatRoads" = some 14 by kernel_rfl).symm.trans hf) |>.symm
      obtain rfl : fn = Tryz.f14 := (Option.some.inj (Tryz.func14.symm.trans hfn)).symm
      exact ⟨by kernel_rfl, fun j t ht => by
        rw [Tryz.params14] at ht
        have hm : t ∈ [23, 23, 3] := by simpa using Array.mem_of_getElem? ht
        have hall : ([23, 23, 3].all fun u => !Tryz.prog.wantsStandIn u) = true := by kernel_rfl
        exact (show Tryz.prog.wantsStandIn t = false by simpa using List.all_eq_true.1 hall t hm)⟩)
    (by kernel_rfl)
#print axioms proved
end Go.Proofs.YtfcfejlffmddnaaGreatDoor.NatRoadsRow
end
