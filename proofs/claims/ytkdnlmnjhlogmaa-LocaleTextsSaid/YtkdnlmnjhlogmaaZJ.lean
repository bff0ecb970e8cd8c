/- The row of LocaleTexts. -/
import Derived.Test.YtkdnlmnjhlogmaaZI
import Derived.Test.YtkdnlmnjhlogmaaZH
import Derived.Test.YtkdnlmnjhlogmaaZN
namespace Go.Proofs.Ytkdnlmnjhlogmaa.LocaleTextsRow
open Go.ChangeShapes Go.WideShapes Go.ChangeAt Go.RowKit Go.Joins
open Go.ChangeMaps (open_string shut_string)
set_option linter.unusedSimpArgs false
set_option linter.unusedVariables false

theorem sep_dg {p s : List UInt8} {g : List Int} {e : Int} (h : okB p s g e = true) : s.all (fun c => !dg c) = true := by
  simp only [okB, Bool.and_eq_true, apartB, Bool.or_eq_true] at h
  obtain ⟨⟨⟨_, h2⟩, _⟩, _⟩ := h
  rcases h2 with h2 | h2
  · rw [List.isEmpty_iff] at h2; rw [h2]; rfl
  · have hm := h2.1.1
    simp only [markB, Bool.and_eq_true, Bool.not_eq_true', List.any_eq_false] at hm
    rw [List.all_eq_true]
    intro c hc
    have := hm.1 c hc
    simp only [badB, Bool.or_eq_true, not_or] at this
    have h3 := this.1.1.1
    rw [dg]
    cases h4 : digB c.toNat
    · rfl
    · rw [h4] at h3; exact absurd rfl h3
theorem texts (p s : ByteArray) (A : Option Addr) (c : Nat) (g : List Int) (e : Int) (d t : ByteArray) (w : World) (hp : p.size ≤ maxLen) (hs : s.size ≤ maxLen) (hg : g.length ≤ maxLen) (hd : d.size ≤ maxLen) (ht : t.size ≤ maxLen) (hR : Rd .i64 w A g) :
    Calls Try.prog 3 #[Loc p s A c g e, .string d, .string t] w fun r w' => r = .returned (.bool true) ∧ Below w.heap.size w w' :=
  texts_calls p s A c g e d t w hp hs hg hd ht hR (fun h0 hok => un_eq g (ok_facts hok).2.2.2 (L s) (L t) (sep_dg hok) h0)

set_option maxRecDepth 100000 in
theorem lifted (os : Os) (started : os.Started) (H : Type) (enc : TypeId × Value → H) :
    ReturnsInHanded {} Try.checked os 3 .any (Rows.localeTextsSpec.pre6 enc Try.prog Try.f3 Rows.localeTextsRow.domain false) (Rows.localeTextsSpec.post enc Try.prog Try.f3 false true false false) := by
  refine returnsInHanded_of_change (C := Try.checked) own started (by kernel_rfl) Try.func3
    (ChangeSpec.witness6 (enc := enc) (C := Try.checked) false ⟨#[], #[.agg #[.string ByteArray.empty, .string ByteArray.empty, .slice none 0 0, .int .i64 0], .string ByteArray.empty, .string ByteArray.empty], []⟩ 8 (by kernel_rfl) (by kernel_rfl) (by kernel_rfl) (by kernel_rfl)) ?_
  intro W base args ds gs before hval0 hW hcnd _
  have hval : ∀ (j : Nat) t v, Try.f3.params[j]? = some t → args[j]? = some v → Value.okWide Try.prog W .any base t v := hval0
  have hW' := hW
  obtain ⟨p, q, hA0, hV, rfl, hfz, hnd⟩ := hW
  have hA : DataW.TrodAll enc Try.prog W 0 (fun _ => true) true Try.f3.params.toList args.toList ds p := hA0
  rw [Try.params3] at hA hval
  obtain ⟨v0, vs0, d0, ds0, p0, q0, hargs, rfl, rfl, h0, r0⟩ := trodAll_cons hA
  obtain ⟨v1, vs1, d1, ds1, p1, q1, rfl, rfl, rfl, h1, r1⟩ := trodAll_cons r0
  obtain ⟨v2, vs2, d2, ds2, p2, q2, rfl, rfl, rfl, h2, r2⟩ := trodAll_cons r1
  obtain ⟨rfl, rfl, rfl⟩ := trodAll_nil r2
  obtain rfl : args = #[v0, v1, v2] := by cases args; simp_all
  obtain ⟨rfl, rfl⟩ := trodVars_none hV
  have k0 := h0
  have lt0 : ∀ x ∈ p0, x.block < W.heap.size := by obtain ⟨m, hm⟩ := k0; exact DataW.trod_lt m _ _ _ hm
  obtain ⟨pp, s, A, c, g, e, rfl, hp, hs, hg, hR⟩ := open_loc (hval 0 24 v0 rfl rfl) h0
  obtain ⟨a1, rfl, rfl, rfl, w1⟩ := open_string Try.underlying9 (hval 1 9 v1 rfl rfl) h1
  obtain ⟨a2, rfl, rfl, rfl, w2⟩ := open_string Try.underlying9 (hval 2 9 v2 rfl rfl) h2
  clear hA0 hval0
  refine (texts pp s A c g e a1 a2 W hp hs hg w1 w2 hR).mono fun e W' ⟨he, bel⟩ => ?_
  subst he
  exact ⟨_, rfl, _, _, _, [], _, [], hW', trodAll_mk1 (shut_bool Try.underlying4 _), (trodAll_cons_mk (Below.trod laidOut (by kernel_rfl) (of_decide_eq_true (by kernel_rfl)) k0 bel lt0) (trodAll_cons_mk (shut_string Try.underlying9 w1) (trodAll_cons_mk (shut_string Try.underlying9 w2) trodAll_mk0))), rfl, bel.frame _, fun h => by cases h⟩

theorem over : Rows.localeTextsRow.holds Try.pinned (OpenSpec.ofChange Rows.localeTextsSpec) :=
  OpenClaim.holds_of_wide 3 Try.f3 rfl rfl rfl rfl rfl rfl rfl ⟨rfl, rfl, rfl, rfl, rfl⟩ rfl rfl rfl rfl rfl (by kernel_rfl) Try.func3 (by kernel_rfl)
    (of_decide_eq_true (by kernel_rfl)) (by unfold Func.isWrapper; first | (rw [if_pos (by decide +kernel)]; kernel_rfl) | (rw [if_neg (by decide +kernel)]; exact ⟨rfl, rfl⟩))
    (fun os started H enc _ => lifted os started H enc)

theorem proved : Rows.LocaleTextsSaid := over
#print axioms proved
end Go.Proofs.Ytkdnlmnjhlogmaa.LocaleTextsRow
