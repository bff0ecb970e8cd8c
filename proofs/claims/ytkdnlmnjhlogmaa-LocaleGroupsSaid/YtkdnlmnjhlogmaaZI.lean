/- A locale that comes in; the row of LocaleTexts. -/
import Derived.Test.YtkdnlmnjhlogmaaRows
import Derived.Test.YtkdnlmnjhlogmaaF
import Derived.ProofKit
import Derived.OpenShut
import Derived.ShutString
import Derived.ChangeOld
import Derived.Below
import Derived.Lib.SmallJoins
namespace Go.Proofs.Ytkdnlmnjhlogmaa
open Go.ChangeShapes Go.WideShapes Go.ChangeAt Go.RowKit Go.Joins
open Go.ChangeMaps (open_string shut_string)
set_option linter.unusedSimpArgs false
set_option linter.unusedVariables false

theorem own : ownKnob Try.prog.godebug = none := by kernel_rfl
theorem laidOut : laidOutB Try.prog = true := by kernel_rfl
theorem cells24 : Try.prog.cellsOf 24 = 4 := by kernel_rfl

set_option maxRecDepth 100000 in
theorem open_loc {H : Type} {enc : TypeId × Value → H} {W : World} {base : Nat} {v : Value} {d : DataW H} {p : List MemPlace} (hv : Value.okWide Try.prog W .any base 24 v) (h : DataW.Trod enc Try.prog W 0 (fun _ => true) true 24 v d p) :
    ∃ (pp s : ByteArray) (A : Option Addr) (c : Nat) (g : List Int) (e : Int), v = Loc pp s A c g e ∧ pp.size ≤ maxLen ∧ s.size ≤ maxLen ∧ g.length ≤ maxLen ∧ Rd .i64 W A g := by
  obtain ⟨v0, v1, v2, v3, y0, y1, y2, y3, n, rfl, _, _, t0, t1, t2, t3⟩ := open_agg4 Try.underlying24 (by kernel_rfl) cells24 hv h
  obtain ⟨pp, e0, _, hp⟩ := DataW.trod_string Try.underlying9 t0
  obtain ⟨s, e1, _, hs⟩ := DataW.trod_string Try.underlying9 t1
  obtain ⟨x, e3, _, _⟩ := DataW.trod_int Try.underlying3 t3
  simp only [List.cons.injEq, and_true] at e0 e1 e3
  subst e0 e1 e3
  rcases open_ints Try.underlying22 Try.underlying3 (by kernel_rfl) t2 with ⟨e2, _⟩ | ⟨a, l, c, zs, e2, _, hl, hm, hz, _, hcell, _⟩
  · simp only [List.cons.injEq, and_true] at e2
    subst e2
    exact ⟨pp, s, none, 0, [], x, rfl, hp, hs, by simp, fun h => absurd rfl h⟩
  · simp only [List.cons.injEq, and_true] at e2
    subst e2
    have hz' : zs.length = c := by simpa using hz
    refine ⟨pp, s, some a, c, zs.take l, x, ?_, hp, hs, ?_, fun hne => ?_⟩
    · show _ = Value.agg #[.string pp, .string s, .slice (some a) (zs.take l).length c, .int .i64 x]
      rw [List.length_take, Nat.min_eq_left (by omega)]
    · rw [List.length_take]; omega
    · have hl0 : 0 < l := by
        rcases Nat.eq_zero_or_pos l with h | h
        · subst h; simp at hne
        · exact h
      obtain ⟨b, off, spot⟩ := a
      have hc := hcell 0 (by omega)
      have hspot : spot = none := by simpa [Addr.add] using World.cell?_spot hc
      subst hspot
      refine ⟨b, off, rfl, fun j y hy => ?_⟩
      rw [List.getElem?_take] at hy
      split at hy
      · have hj := (List.getElem?_eq_some_iff.1 hy).1
        have := hcell j hj
        rw [List.getD_eq_getElem?_getD, hy] at this
        rwa [show (⟨b, off, none⟩ : Addr).add j = ⟨b, off + j, none⟩ from by unfold Addr.add; split <;> simp_all] at this
      · cases hy
end Go.Proofs.Ytkdnlmnjhlogmaa
