/- Digits grouped, by the program: the walk. -/
import Derived.Test.YtkdnlmnjhlogmaaO
namespace Go.Proofs.Ytkdnlmnjhlogmaa
open Go.RowKit Go.Shelf
set_option linter.unusedSimpArgs false
set_option linter.unusedVariables false

def groupL (one : Bool) (g : List Int) (sep d : List UInt8) : List UInt8 := joined sep (grp (sz one g) d.length) d

set_option maxHeartbeats 4000000 in
theorem group_calls (p s : ByteArray) (A : Option Addr) (c : Nat) (g : List Int) (e : Int) (d : ByteArray) (w : World) (hg : g.length ≤ maxLen) (hR : Rd .i64 w A g) (one : Bool) (hone : one = ((L s).isEmpty || g.isEmpty))
    (hf : ∀ k, 0 ≤ sz one g k) (hd : d.size ≤ 30000) (hs : s.size ≤ 4) :
    Calls Try.prog 35 #[Loc p s A c g e, .string d] w fun r w' => r = .returned (.string (S (groupL one g (L s) (L d)))) ∧ Below w.heap.size w w' := by
  obtain ⟨gs, hgs⟩ : ∃ gs, grp (sz one g) (d.size : Int) = gs := ⟨_, rfl⟩
  rw [groupL, L_length, hgs]
  obtain ⟨hsum, hpos, hglen⟩ := grp_sum (sz one g) hf (d.size : Int) (by omega)
  rw [hgs] at hsum hpos hglen
  have hdl : (L d).length = d.size := L_length d
  have hfit := gstate_fits (L s) (L d) gs hpos (by rw [hdl]; exact hsum)
  have hlens := gstate_len (L s) (L d) gs
  have hfst := gstate_first (L s) (L d) gs
  have hall := gstate_all (L s) (L d) gs
  have hgl : gs.length ≤ 30000 := by omega
  have hI := InBox.new w p s A c g e hR
  obtain ⟨w2, hw2⟩ : ∃ w2, (w.alloc (.cells #[.string p, .string s, .slice A g.length c, .int .i64 e] 24)).alloc (.cells #[.pointer none, .slice none 0 0] 75) = w2 := ⟨_, rfl⟩
  have hs2 : w2.heap.size = w.heap.size + 1 + 1 := by rw [← hw2]; simp
  have hbx2 : Box w2 w.heap.size p s A c g e := by rw [← hw2]; exact hI.bx.alloc _
  have hrd2 : Rd .i64 w2 A g := by rw [← hw2]; exact hI.rd.alloc _
  have hbe2 : Below w.heap.size w w2 := by rw [← hw2]; exact hI.b.alloc hI.b.size _
  have hbl2 : w2.heap[w.heap.size + 1]? = some (.cells #[.pointer none, .slice none 0 0] 75 (0, 0)) := by
    rw [← hw2]; have := World.alloc_heap_new (w.alloc (.cells #[.string p, .string s, .slice A g.length c, .int .i64 e] 24)) (.cells #[.pointer none, .slice none 0 0] 75); rwa [World.size_alloc] at this
  have hgr := groups_calls p s A c g e (d.size : Int) w2 hg hrd2 one hone hf (by omega) (by omega)
  rw [hgs] at hgr
  have Hgr := Lib.hid hgr
  have Hfit := Lib.hid hfit
  have Hlens := Lib.hid hlens
  have Hfst := Lib.hid hfst
  have Hall := Lib.hid hall
  have Hdl := Lib.hid hdl
  have Hbx2 := Lib.hid hbx2
  have Hbe2 := Lib.hid hbe2
  have Hbl2 := Lib.hid hbl2
  have Hs2 := Lib.hid hs2
  obtain ⟨c0, c1, c2, c3⟩ := hbx2.cells
  clear hfit hlens hfst hall hgr hI hsum hpos hglen hgs hf hone hR hg hrd2 hbx2 hbe2 hbl2 hs2 hdl
  have hmf : ∀ (fn : Fn) (first cap : Array Value) (w : World), (Instr.makeFunc fn first cap).run Try.prog w = .ok (.func fn first cap) w := fun _ _ _ _ => rfl
  go_enter Try.func35, Try.ntmps35
  go_wp2_with fail
  clear hw2 c0 c1 c2 c3
  refine Hgr.out.mono ?_
  rintro r w1 ⟨v, rfl, ⟨A1, cc, rfl, hrd, hl1, -⟩, hb1⟩
  have Hrd := Lib.hid hrd
  have hsz := hb1.size
  have Hbx := Lib.hid (Hbx2.out.below hb1 (by have := Hs2.out; omega))
  have Hbe := Lib.hid (Hbe2.out.trans (hb1.mono (by have := Hs2.out; omega)))
  have hbl : w1.heap[w.heap.size + 1]? = some (.cells #[.pointer none, .slice none 0 0] 75 (0, 0)) := (hb1.block _ (by have := Hs2.out; omega)).trans Hbl2.out
  have Hbd : Hid (Bld w1.heap.size (w.heap.size + 1) [] w1) := ⟨_, _, hbl, .inl rfl, World.ownsRow_nil _ _ _ _, by simp [Value.ownBlock]⟩
  have Hbl := Lib.hid hbl
  have hsz2 : w.heap.size + 1 < w1.heap.size := by have := Hs2.out; omega
  clear hrd hb1 hbl hsz
  go_wp2_with fail
  go_loopw [1, 6, 14] (fun vd vb vi wr => ∃ (k : Nat) (r : ByteArray), k ≤ gs.length ∧ vi = .int .i64 k ∧ vd = .string r ∧ vb = (if k = 0 then FN 54 else .func (.func 56) #[] #[.pointer (some ⟨w.heap.size, 0, none⟩)]) ∧
      Hid (L r = (gstate (L s) (L d) gs k).2.1) ∧ r.size ≤ 30000 ∧ Hid (Bld w1.heap.size (w.heap.size + 1) (gstate (L s) (L d) gs k).1 wr) ∧ Hid (But w1.heap.size (w.heap.size + 1) w1 wr) ∧ w1.heap.size ≤ wr.heap.size) (fun _ _ vi _ => gs.length - (intOf vi).toNat)
  case atStart => exact ⟨0, d, Nat.zero_le _, rfl, rfl, rfl, rfl, hd, Hbd, But.refl _ _ _, Nat.le_refl _⟩
  case round =>
    obtain ⟨k, r, hk, rfl, rfl, rfl, Hr, hrs, Hbw, Hbut, hwr⟩ := hrel
    by_cases hlt : k < gs.length
    · obtain ⟨x, hx⟩ : ∃ x, gs[k]? = some x := ⟨gs[k], List.getElem?_eq_getElem hlt⟩
      obtain ⟨hx1, hx2⟩ := Hfit.out k x hx
      rw [← Hr.out, L_length] at hx2
      have hrdw := Hbut.out.rd Hrd.out (Nat.le_refl _) Hbl.out (by simp) (by simp)
      obtain ⟨ba, oa, rfl, hc⟩ := hrdw (fun e => by rw [e] at hlt; simp at hlt)
      have hck := hc k x hx
      have Hx := Lib.hid hx
      clear hc hrdw hx
      have hx3 : x.toNat ≤ r.size := by omega
      have hx4 : (x : Int) ≤ r.size := by omega
      have hx5 : 0 ≤ x := by omega
      by_cases hk0 : k = 0
      · rw [if_pos hk0]
        have Hk0 := Lib.hid hk0
        clear hk0
        have hcat : ¬ (9223372036854775807 < (S []).size + x.toNat) := by rw [S_size, List.length_nil]; omega
        go_wp2_with fail
        refine wp_region_still_tail 6 (by kernel_rfl) (by kernel_rfl) ?_
        simp only [List.take_succ_cons, List.take_zero, List.drop_succ_cons, List.drop_zero]
        still_step
        still_call (between0 _)
        still_step
        still_step
        still_step
        still_step
        refine wpStill_nil ?_
        change wpList _ _ _ _ _ wr.drew
        have hbw : Bld w1.heap.size (w.heap.size + 1) (gstate (L s) (L d) gs k).1 wr.drew := Hbw.out
        have Hws := Lib.hid (writeString_calls w1.heap.size (w.heap.size + 1) _ (S [] ++ r.extract 0 x.toNat) wr.drew hbw (by have := Hlens.out k (by omega); rw [L_length] at this; rw [ByteArray.size_append, ByteArray.size_extract]; have : k * (L s).length ≤ 30000 * 4 := Nat.mul_le_mul (by omega) (by rw [L_length]; exact hs); (try simp only [S_size, List.length_nil]); omega) hwr)
        clear hbw
        go_wp2_with fail
        refine Hws.out.mono ?_
        rintro r2 w3 ⟨rfl, hb3, hbut3⟩
        have Hb3 := Lib.hid hb3
        have Hbut3 := Lib.hid hbut3
        have hw3 := hbut3.size
        rw [World.size_drew] at hw3
        clear hb3 hbut3
        go_wp2_with fail
        go_roundw
        case rel =>
          refine ⟨k + 1, _, by omega, by go_num, rfl, by rw [if_neg (by omega)], ?_, ?_, ?_, Hbut.out.trans ⟨Hbut3.out.os, Hbut3.out.tape, Hbut3.out.output, Hbut3.out.size, Hbut3.out.block⟩, by omega⟩
          · show L (r.extract x.toNat r.size) = _
            rw [gstate_succ _ _ _ _ x Hx.out, L_extract, ← L_length r, List.take_length, Hr.out]; rfl
          · rw [ByteArray.size_extract]; omega
          · show Bld _ _ _ w3
            have hfin : (gstate (L s) (L d) gs (k + 1)).1 = (gstate (L s) (L d) gs k).1 ++ L (S [] ++ r.extract 0 x.toNat) := by
              rw [gstate_succ _ _ _ _ x Hx.out, gstep, Hfst.out k (by omega), L_append, L_extract, List.drop_zero, Hr.out]
              simp [Hk0.out, L_S]
            rw [hfin]; exact Hb3.out
        case measure => simp [intOf]; omega
      · rw [if_neg hk0]
        have Hk0 := Lib.hid hk0
        clear hk0
        have hcat : ¬ (9223372036854775807 < s.size + x.toNat) := by omega
        have Hbw2 := Lib.hid (show Box wr w.heap.size p s A c g e from (Hbut.out.block _ (by omega) (by omega)).trans Hbx.out)
        go_wp2_with fail
        refine wp_region_still_tail 6 (by kernel_rfl) (by kernel_rfl) ?_
        simp only [List.take_succ_cons, List.take_zero, List.drop_succ_cons, List.drop_zero]
        still_step
        still_call (between1 w.heap.size p s A c g e _ Hbw2.out)
        still_step
        still_step
        still_step
        still_step
        refine wpStill_nil ?_
        change wpList _ _ _ _ _ wr.drew
        have hbw : Bld w1.heap.size (w.heap.size + 1) (gstate (L s) (L d) gs k).1 wr.drew := Hbw.out
        have Hws := Lib.hid (writeString_calls w1.heap.size (w.heap.size + 1) _ (s ++ r.extract 0 x.toNat) wr.drew hbw (by have := Hlens.out k (by omega); rw [L_length] at this; rw [ByteArray.size_append, ByteArray.size_extract]; have : k * (L s).length ≤ 30000 * 4 := Nat.mul_le_mul (by omega) (by rw [L_length]; exact hs); (try simp only [S_size, List.length_nil]); omega) hwr)
        clear hbw
        go_wp2_with fail
        refine Hws.out.mono ?_
        rintro r2 w3 ⟨rfl, hb3, hbut3⟩
        have Hb3 := Lib.hid hb3
        have Hbut3 := Lib.hid hbut3
        have hw3 := hbut3.size
        rw [World.size_drew] at hw3
        clear hb3 hbut3
        go_wp2_with fail
        go_roundw
        case rel =>
          refine ⟨k + 1, _, by omega, by go_num, rfl, by rw [if_neg (by omega)], ?_, ?_, ?_, Hbut.out.trans ⟨Hbut3.out.os, Hbut3.out.tape, Hbut3.out.output, Hbut3.out.size, Hbut3.out.block⟩, by omega⟩
          · show L (r.extract x.toNat r.size) = _
            rw [gstate_succ _ _ _ _ x Hx.out, L_extract, ← L_length r, List.take_length, Hr.out]; rfl
          · rw [ByteArray.size_extract]; omega
          · show Bld _ _ _ w3
            have hfin : (gstate (L s) (L d) gs (k + 1)).1 = (gstate (L s) (L d) gs k).1 ++ L (s ++ r.extract 0 x.toNat) := by
              rw [gstate_succ _ _ _ _ x Hx.out, gstep, Hfst.out k (by omega), L_append, L_extract, List.drop_zero, Hr.out]
              simp [Hk0.out]
            rw [hfin]; exact Hb3.out
        case measure => simp [intOf]; omega
    · obtain rfl : k = gs.length := by omega
      obtain ⟨vb, hvb⟩ : ∃ vb, (if gs.length = 0 then FN 54 else .func (.func 56) #[] #[.pointer (some ⟨w.heap.size, 0, none⟩)]) = vb := ⟨_, rfl⟩
      rw [hvb]
      clear hvb
      have hst := Try.Builder_String_any w.heap.size (w.heap.size + 1) _ wr (Hbw.out.is (by omega) (by omega)) (by omega)
      have Hst := Lib.hid hst
      clear hst
      go_wp2_with fail
      refine Hst.out.mono ?_
      rintro r2 w3 ⟨rfl, hb3⟩
      have Hb3 := Lib.hid hb3
      clear hb3
      go_wp2_with fail
      go_ret
      refine ⟨ret_str ?_, (Hbe.out.trans (Hbut.out.below (by omega) (by omega))).trans Hb3.out⟩
      show L (S _) = _
      rw [L_S, Hall.out]
end Go.Proofs.Ytkdnlmnjhlogmaa
