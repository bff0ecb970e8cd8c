/- Ungroup, by the program. -/
import Derived.Test.YtkdnlmnjhlogmaaX
namespace Go.Proofs.Ytkdnlmnjhlogmaa
open Go.RowKit Go.Shelf
set_option linter.unusedSimpArgs false
set_option linter.unusedVariables false

/-- The first runs, held in a row. -/
theorem row_rd {W : World} {base : Nat} {b k cap : Nat} {xs : List Int} (h : W.ownsRow base 3 1 (.slice (some ⟨b, 0, none⟩) k cap) k (xs.map (.int .i64))) (j : Nat) (x : Int) (hx : xs[j]? = some x) : W.cell? ⟨b, j, none⟩ = some (.int .i64 x) := by
  have := h.cells (g := b) rfl j (.int .i64 x) (by simp [hx])
  rwa [show (⟨b, 0, none⟩ : Addr).add j = ⟨b, j, none⟩ from by unfold Addr.add; split <;> simp_all] at this

set_option maxRecDepth 10000 in
set_option maxHeartbeats 1000000 in
theorem ungroup_prog (p s : ByteArray) (A : Option Addr) (c : Nat) (g : List Int) (e : Int) (t : ByteArray) (w : World) (hp : p.size ≤ maxLen) (hs : s.size ≤ maxLen) (hg : g.length ≤ maxLen) (ht : t.size ≤ maxLen) (hR : Rd .i64 w A g) (x : Int) (R : List UInt8 × Nat)
    (hx : x = if errB (okB (L p) (L s) g e) t.size = 0 then (if lead (L t) = 0 then 6 else 0) else errB (okB (L p) (L s) g e) t.size)
    (hRR : R = if x = 0 then ungL (sz (oneB (L s) g) g) g (L s) (L t) else ([], 0)) :
    Calls Try.prog 13 #[Loc p s A c g e, .string t] w fun r w' => r = .returned (.tuple #[.string (S R.1), .int .i64 R.2, .int .i64 x]) ∧ Below w.heap.size w w' := by
  have hI := (InBox.new w p s A c g e hR)
  obtain ⟨y, hy⟩ : ∃ y, errB (okB (L p) (L s) g e) t.size = y := ⟨_, rfl⟩
  rw [hy] at hx
  obtain ⟨w2, hw2⟩ : ∃ w2, (w.alloc (.cells #[.string p, .string s, .slice A g.length c, .int .i64 e] 24)).alloc (.cells #[.int .i64 0] 26) = w2 := ⟨_, rfl⟩
  have hI2 : InBox w w2 w.heap.size p s A c g e := by rw [← hw2]; exact hI.step ((Below.refl _ _).alloc (Nat.le_refl _) _)
  have hE2 : ECell w2 (w.heap.size + 1) 0 := by
    unfold ECell; rw [← hw2]; have := World.alloc_heap_new (w.alloc (.cells #[.string p, .string s, .slice A g.length c, .int .i64 e] 24)) (.cells #[.int .i64 0] 26); rwa [World.size_alloc] at this
  obtain ⟨c0, c1, c2, c3⟩ := hI2.bx.cells
  have Hy := Lib.hid hy
  have HI := Lib.hid hI2
  have HE := Lib.hid hE2
  have Hg := Lib.hid hg
  by_cases hy0 : y = 0
  · rw [if_pos hy0] at hx
    obtain ⟨hok, hn0, hn1⟩ := errB_ok (by rw [Hy.out]; exact hy0)
    obtain ⟨⟨_, hpl⟩, hsl, hgl, hgp⟩ := ok_facts hok
    rw [L_length] at hpl hsl
    have hck := check_yes p s A c g e t.size w2 hp hs hg hI2.rd (by rw [Hy.out]; exact hy0)
    have Hck := Lib.hid hck
    have Hgp := Lib.hid hgp
    have Hrr := Lib.hid hRR
    have hrl := runsL_len (L s) (L t)
    rw [L_length] at hrl
    have hfit := runsL_fit (L s) (L t)
    obtain ⟨rs, hrs⟩ : ∃ rs, runsL (L s) (L t) = rs := ⟨_, rfl⟩
    have hrs0 : 0 < rs.length ∧ rs.getD 0 0 = (lead (L t) : Int) := by rw [← hrs]; simp [runsL]
    obtain ⟨r0, hr0⟩ : ∃ r0, lead (L t) = r0 := ⟨_, rfl⟩
    rw [hr0] at hrs0 hx
    obtain ⟨hrs0, hrs1⟩ := hrs0
    rw [hrs] at hrl hfit
    have Hrs := Lib.hid hrs
    have Hr0 := Lib.hid hr0
    have Hfit := Lib.hid hfit
    have Hrs1 := Lib.hid hrs1
    clear hck hy0 hy hI hI2 hE2 hR hp hs hg ht hok hgp hRR hrs hr0 hfit hrs1
    go_enter_defers Try.func13, Try.ntmps13
    go_wp2_with fail
    clear hw2 c0 c1 c2 c3
    refine Hck.out.mono ?_
    rintro r w1 ⟨rfl, hb1⟩
    have HI1 := Lib.hid (HI.out.step hb1)
    have HE1 := Lib.hid (HE.out.below hb1)
    clear hb1
    obtain ⟨c0, c1, c2, c3⟩ := HI1.out.bx.cells
    have Hrn := Lib.hid (runs_calls p s A c g e t w1 hsl hpl (by unfold maxLen; omega) (by omega) HI1.out.rd)
    go_wp2_with fail
    clear c0 c1 c2 c3
    refine Hrn.out.mono ?_
    rintro r w3 ⟨v, rfl, hrow, hb3⟩
    rw [Hrs.out] at hrow
    have HI3 := Lib.hid (HI1.out.step hb3)
    have HE3 := Lib.hid (HE1.out.below hb3)
    have hsz3 := hb3.size
    obtain ⟨bb, cap, rfl⟩ : ∃ bb cap, v = .slice (some ⟨bb, 0, none⟩) rs.length cap := by
      obtain ⟨k, hk⟩ : ∃ k, rs.length = k + 1 := ⟨rs.length - 1, by omega⟩
      rw [hk] at hrow ⊢
      obtain ⟨g', cap', h⟩ := ownsRow_succ hrow
      exact ⟨g', cap', h⟩
    have hbb : w1.heap.size ≤ bb ∧ bb < w3.heap.size := hrow.lt bb rfl
    have cr0 : w3.cell? ⟨bb, 0, none⟩ = some (.int .i64 (r0 : Int)) := row_rd hrow 0 _ (by
      have := Hrs1.out; rw [List.getD_eq_getElem?_getD] at this
      rw [List.getElem?_eq_getElem hrs0] at this ⊢; simpa using this)
    have Hrow := Lib.hid hrow
    clear hrow hb3 Hrn
    by_cases hr00 : r0 = 0
    · subst hr00
      rw [if_pos rfl] at hx
      subst hx
      have hR0 : R = ([], 0) := Hrr.out
      subst hR0
      go_wp2_with fail
      refine (need_no _ _).mono ?_
      rintro r w4 ⟨rfl, rfl⟩
      have hE3 := HE3.out
      refine leaves_cons (f := 29) (args := #[.pointer (some ⟨w.heap.size + 1, 0, none⟩)]) (by simp) (by simp [go_sem]) ?_
      refine (caught_fail (w.heap.size + 1) 6 0 _ hE3).mono ?_
      rintro r u' w'' ⟨rfl, rfl, rfl⟩
      have hc := hE3.setA 6 (.cells #[.int .i64 6] 71)
      exact ⟨.tuple #[.string (S []), .int .i64 0, .int .i64 6], by simp [results, Try.results13, go_sem, hc]; rfl, rfl, below_setA HI3.out.b (Nat.le_succ _) _ _⟩
    · rw [if_neg hr00] at hx
      subst hx
      have hr01 : 0 < r0 := by omega
      go_wp2_with fail
      refine (need_ok _ _).mono ?_
      rintro r w4 ⟨rfl, rfl⟩
      go_wp2_with fail
      go_loopw [4, 5, 7, 8] (fun v4 v5 v7 v8 wr => ∃ k : Nat, k < rs.length ∧ v4 = .string (S []) ∧ v5 = .int .i64 0 ∧ v7 = .slice (some ⟨bb, 0, none⟩) rs.length cap ∧ v8 = .int .i64 k ∧ Hid (∀ j, k < j → j < rs.length → goodAll (sz (oneB (L s) g) g) rs j = false) ∧ Hid (InBox w wr w.heap.size p s A c g e) ∧ Hid (ECell wr (w.heap.size + 1) 0) ∧
          Hid (wr.ownsRow w1.heap.size 3 1 (.slice (some ⟨bb, 0, none⟩) rs.length cap) rs.length (rs.map (.int .i64)))) (fun v4 v5 v7 v8 wr => (intOf v8).toNat)
      case atStart => exact ⟨rs.length - 1, by omega, rfl, rfl, rfl, by go_num, Lib.hid (fun j h1 h2 => by omega), HI3, HE3, Hrow⟩
      case round =>
        obtain ⟨k, hk, rfl, rfl, rfl, rfl, Hbad, HI4, HE4, Hrow4⟩ := hrel
        clear cr0
        obtain ⟨c0, c1, c2, c3⟩ := HI4.out.bx.cells
        by_cases hk0 : 0 < k
        · have hk1 : (k : Int) ≤ 30000 := by omega
          have hgc := grouped_calls p s A c g e (some ⟨bb, 0, none⟩) cap rs k wr Hg.out HI4.out.rd (oneB (L s) g) rfl (sz_nonneg Hgp.out) (fun _ => ⟨bb, 0, rfl, fun j x hx => by rw [Nat.zero_add]; exact row_rd Hrow4.out j x hx⟩) hk0 hk (by omega)
          obtain ⟨b, hb⟩ : ∃ b, goodAll (sz (oneB (L s) g) g) rs k = b := ⟨_, rfl⟩
          rw [hb] at hgc
          have Hb := Lib.hid hb
          have Hgc := Lib.hid hgc
          clear hgc hb
          cases b
          · go_wp2_with fail
            refine Hgc.out.mono ?_
            rintro r w5 ⟨xv, rfl, hb5⟩
            have HI5 := Lib.hid (HI4.out.step hb5)
            have HE5 := Lib.hid (HE4.out.below hb5)
            have Hrow5 := Lib.hid (Hrow4.out.kept (w' := w5) (row := none) ⟨hb5.os, hb5.tape, hb5.output, hb5.size, fun i hi _ => hb5.block i hi⟩ (.inr (by simp [Value.ownBlock])))
            clear hb5
            go_wp2_with fail
            go_roundw
            case rel => 
              refine ⟨k - 1, by omega, rfl, rfl, rfl, by go_num, Lib.hid (fun j h1 h2 => ?_), HI5, HE5, Hrow5⟩
              by_cases hjk : j = k
              · rw [hjk]; exact Hb.out
              · exact Hbad.out j (by omega) h2
            case measure => simp [intOf]; omega
          · have hgf := good_first s g (oneB (L s) g) rfl rs k hk0 Hb.out
            obtain ⟨hone, hge, hf0, hg0, hgk⟩ := hgf
            obtain ⟨g0, hgg⟩ : ∃ g0, g.getD 0 0 = g0 := ⟨_, rfl⟩
            have hg1 : g[0]? = some g0 := by
              rw [List.getD_eq_getElem?_getD] at hgg
              rw [List.getElem?_eq_getElem (List.length_pos_iff.2 hge)] at hgg ⊢; simpa using hgg
            have hgpos := (Hgp.out g0 (List.mem_of_getElem? hg1)).1
            have hql := ungL (sz (oneB (L s) g) g) g (L s) (L t)
            have hR1 : R = (ud (L t) (L s).length (cutRuns g rs k) (k + 1), un (L s).length (cutRuns g rs k) (k + 1)) := by
              have := Hrr.out
              rw [if_pos (by trivial)] at this
              rw [this, ungL, Hrs.out, findQ_at _ _ (rs.length - 1) k (fun j h1 h2 => Hbad.out j h1 (by omega)) Hb.out hk0 (by omega)]
            have hcf := cut_fit g (L s) (L t) k (by rw [Hrs.out]; exact hk) (by rw [Hrs.out]; exact hgk)
            rw [Hrs.out, L_length, L_length] at hcf
            have hcl := cut_len g rs k hk
            have hca := cut_at g rs k hk
            rw [L_length] at hR1
            have hnn : ∀ j, j ≤ k → 0 ≤ (if j = k then g.getD 0 0 else rs.getD j 0) := fun j hj => by
              split
              · rw [hgg]; omega
              · exact (Hfit.out j (by omega)).1
            obtain ⟨cr, hcr⟩ : ∃ cr, cutRuns g rs k = cr := ⟨_, rfl⟩
            rw [hcr] at hcf hcl hca hR1
            have Hca := Lib.hid hca
            have Hnn := Lib.hid hnn
            have Hgg := Lib.hid hgg
            have Hcf := Lib.hid hcf
            have HR1 := Lib.hid hR1
            have hge' := hge
            have hgl0 : 0 < g.length := List.length_pos_iff.2 hge
            have Hg1 := Lib.hid hg1
            clear hql hone hf0 hg0 hgk hgg hcf hca hnn hR1 hcr hge hg1
            go_wp2_with fail
            clear c0 c1 c2 c3
            refine Hgc.out.mono ?_
            rintro r w5 ⟨xv, rfl, hb5⟩
            have HI5 := Lib.hid (HI4.out.step hb5)
            have HE5 := Lib.hid (HE4.out.below hb5)
            have hrow5 := (Hrow4.out.kept (w' := w5) (row := none) ⟨hb5.os, hb5.tape, hb5.output, hb5.size, fun i hi _ => hb5.block i hi⟩ (.inr (by simp [Value.ownBlock])))
            have ck := row_rd hrow5 k (rs.getD k 0) (by rw [List.getD_eq_getElem?_getD, List.getElem?_eq_getElem hk]; rfl)
            have zk := hrow5.frozenAt k
            obtain ⟨hcap1, hcap2⟩ : rs.length ≤ cap ∧ cap ≤ maxLen := by
              rcases hrow5.2 with ⟨h, _⟩ | ⟨_, _, _, h, _, _, h1, h2, _⟩
              · cases h
              · cases h; exact ⟨h1, h2⟩
            unfold maxLen at hcap2
            obtain ⟨ga, gof, rfl, hga⟩ := HI5.out.rd hge'
            have cg0 := hga 0 g0 Hg1.out
            rw [Nat.add_zero] at cg0
            have Hrow5 := Lib.hid hrow5
            have hE1s := lt_of_block HE1.out
            obtain ⟨w6, hw6⟩ : ∃ w6, w5.setCell ⟨bb, k, none⟩ (.int .i64 g0) = w6 := ⟨_, rfl⟩
            have Hst := Lib.hid ((hrow5.stored k (.int .i64 g0)).1)
            have HE6 : Hid (ECell w6 (w.heap.size + 1) 0) := Lib.hid (by rw [← hw6]; exact (Below.heap_setCell _ _ _ _ (by show w.heap.size + 1 ≠ bb; omega)).trans HE5.out)
            have HB6 : Hid (Below w.heap.size w w6) := Lib.hid (by rw [← hw6]; exact HI5.out.b.setCell (p := ⟨bb, k, none⟩) (by show w.heap.size ≤ bb; omega) _)
            have hbx6 : Box w6 w.heap.size p s (some ⟨ga, gof, none⟩) c g e := by rw [← hw6]; exact (Below.heap_setCell _ _ _ _ (by show w.heap.size ≠ bb; omega)).trans HI5.out.bx
            rw [hw6] at Hst
            obtain ⟨c0, c1, c2, c3⟩ := HI5.out.bx.cells
            obtain ⟨d0, d1, d2, d3⟩ := hbx6.cells
            clear hb5 hrow5 hga hge' hbx6
            go_wp2_with fail
            clear c0 c1 c2 c3 d0 d2 d3 cg0 zk ck
            go_loop [4, 5, 54] (fun v4 v5 vi => ∃ i : Nat, i ≤ k + 1 ∧ vi = .int .i64 i ∧ v4 = .string (S (ud (L t) s.size cr i)) ∧ v5 = .int .i64 (un s.size cr i)) (fun v4 v5 vi => k + 1 - (intOf vi).toNat)
            case atStart => exact ⟨0, Nat.zero_le _, rfl, rfl, rfl⟩
            case round =>
              obtain ⟨i, hi, rfl, rfl, rfl⟩ := hrel
              by_cases hlt : i < k + 1
              · obtain ⟨m, hm⟩ : ∃ m : Nat, (if i = k then g.getD 0 0 else rs.getD i 0) = (m : Int) := ⟨_, (Int.toNat_of_nonneg (Hnn.out i (by omega))).symm⟩
                have hcm := Hca.out i (by omega)
                rw [hm] at hcm
                have hrm : rn cr i = m := by rw [rn, List.getD_eq_getElem?_getD, hcm]; rfl
                have hft := Hcf.out i (by omega)
                rw [hrm] at hft
                have hcell : w6.cell? ⟨bb, i, none⟩ = some (.int .i64 (m : Int)) := by
                  rw [Hst.out.cellAt i (by omega), List.getElem?_set]
                  by_cases hik : k = i
                  · subst hik
                    rw [if_pos rfl] at hm
                    rw [if_pos rfl, if_pos (by simpa using hk), ← Hgg.out, hm]
                  · rw [if_neg (fun h => hik h.symm)] at hm
                    rw [if_neg hik, List.getElem?_map, List.getElem?_eq_getElem (by omega)]
                    rw [List.getD_eq_getElem?_getD, List.getElem?_eq_getElem (by omega)] at hm
                    simpa using hm
                have hul := ud_len (L t) s.size cr i
                have hpu := pos_un s.size cr i
                have hnq := un_pos s.size cr i
                obtain ⟨n, hn⟩ : ∃ n, un s.size cr i = n := ⟨_, rfl⟩
                have hud : ud (L t) s.size cr (i + 1) = ud (L t) s.size cr i ++ ((L t).drop (pos s.size cr i)).take m := by rw [ud, hrm]
                have hun : un s.size cr (i + 1) = pos s.size cr i + m := by rw [un, hrm]
                obtain ⟨q, hq⟩ : ∃ q, pos s.size cr i = q := ⟨_, rfl⟩
                rw [hn] at hul hpu hnq
                rw [hq] at hpu hft hud hun hnq
                obtain ⟨dd, hdd⟩ : ∃ dd, ud (L t) s.size cr i = dd := ⟨_, rfl⟩
                rw [hdd] at hul hud
                rw [hn, hdd]
                have hLx : L (t.extract q (q + m)) = ((L t).drop q).take m := by rw [L_extract, List.take_drop]
                have hx1 : (t.extract q (q + m)).size = m := by rw [ByteArray.size_extract]; omega
                have fin : S (ud (L t) s.size cr (i + 1)) = S dd ++ t.extract q (q + m) := by
                  rw [hud, ← hLx, ← L_S dd, ← L_append, S_L, L_S]
                have Fin := Lib.hid fin
                have Hun := Lib.hid hun
                have hcat : ¬ (9223372036854775807 < (S dd).size + (t.extract q (q + m)).size) := by rw [S_size]; omega
                clear hm hcm hrm hLx hud hun fin hn hdd hq
                by_cases hi0 : i = 0
                · rw [if_pos hi0] at hpu
                  obtain rfl : n = q := by omega
                  have hi1 : ¬ (0 < i) := by omega
                  have hq2 : ((n : Int) + m) ≤ t.size := by omega
                  have hq3 : ((n : Int) + m).toNat = n + m := by omega
                  have hq4 : (n : Int) ≤ (n : Int) + m := by omega
                  have hq5 : (0 : Int) ≤ (n : Int) + m := by omega
                  have Hx1 := Lib.hid hx1
                  clear hi0 hpu hnq hul hx1 hft
                  go_wp2_with fail
                  exact ⟨⟨i + 1, by omega, by go_num, by rw [Fin.out], by rw [Hun.out]; go_num⟩, by simp [intOf]; omega⟩
                · rw [if_neg hi0] at hpu
                  have hi1 : 0 < i := by omega
                  have hq1 : (n : Int) + s.size = (q : Int) := by omega
                  have hq2 : ((q : Int) + m) ≤ t.size := by omega
                  have hq3 : ((q : Int) + m).toNat = q + m := by omega
                  have hq4 : (q : Int) ≤ (q : Int) + m := by omega
                  have hq5 : (0 : Int) ≤ (q : Int) + m := by omega
                  have Hx1 := Lib.hid hx1
                  clear hi0 hpu hnq hul hx1 hft
                  go_wp2_with fail
                  exact ⟨⟨i + 1, by omega, by go_num, by rw [Fin.out], by rw [Hun.out]; go_num⟩, by simp [intOf]; omega⟩
              · obtain rfl : i = k + 1 := by omega
                have ce := cell_of_one HE6.out
                have cz := free_of_one HE6.out
                go_wp2_with fail
                refine leaves_cons (f := 29) (args := #[.pointer (some ⟨w.heap.size + 1, 0, none⟩)]) (by simp) (by simp [go_sem]) ?_
                refine (caught_idle _ _).mono ?_
                rintro r u' w'' ⟨rfl, rfl, rfl⟩
                have hc := HE6.out.set 0
                exact ⟨.tuple #[.string (S (ud (L t) s.size cr (k + 1))), .int .i64 (un s.size cr (k + 1)), .int .i64 0], by simp [results, Try.results13, go_sem, hc], by rw [HR1.out], below_set HB6.out (Nat.le_succ _) _⟩
        · have hk00 : k = 0 := by omega
          subst hk00
          have hR1 : R = (L t |>.take r0, r0) := by
            have := Hrr.out
            rw [if_pos (by trivial)] at this
            rw [this, ungL, Hrs.out, findQ_none _ _ _ (fun j h1 h2 => Hbad.out j h1 (by omega)), Hr0.out]
          have HR1 := Lib.hid hR1
          have cr0 : wr.cell? ⟨bb, 0, none⟩ = some (.int .i64 (r0 : Int)) := row_rd Hrow4.out 0 _ (by
            have := Hrs1.out; rw [List.getD_eq_getElem?_getD] at this
            rw [List.getElem?_eq_getElem hrs0] at this ⊢; simpa using this)
          have hr0t : r0 ≤ t.size := by rw [← Hr0.out, ← L_length]; exact lead_le _
          have ce := cell_of_one HE4.out
          have cz := free_of_one HE4.out
          clear hR1
          go_wp2_with fail
          go_region
          go_wp2_with fail
          refine leaves_cons (f := 29) (args := #[.pointer (some ⟨w.heap.size + 1, 0, none⟩)]) (by simp) (by simp [go_sem]) ?_
          refine (caught_idle _ _).mono ?_
          rintro r u' w'' ⟨rfl, rfl, rfl⟩
          have hc := HE4.out.set 0
          exact ⟨.tuple #[.string (t.extract 0 r0), .int .i64 (r0 : Int), .int .i64 0], by simp [results, Try.results13, go_sem, hc], by rw [HR1.out, ← S_L (t.extract 0 r0), L_extract, List.drop_zero], (below_set HI4.out.b (Nat.le_succ _) _).drew⟩
  · rw [if_neg hy0] at hx
    subst hx
    rw [if_neg hy0] at hRR
    subst hRR
    have hck := check_no p s A c g e t.size x w2 hp hs hg hI2.rd Hy.out hy0
    have Hck := Lib.hid hck
    clear hck hy0 hy hI hI2 hE2 hR hp hs hg ht
    go_enter_defers Try.func13, Try.ntmps13
    go_wp2_with fail
    clear hw2 c0 c1 c2 c3
    refine Hck.out.mono ?_
    rintro r w1 ⟨rfl, hb1⟩
    have hE1 := HE.out.below hb1
    refine leaves_cons (f := 29) (args := #[.pointer (some ⟨w.heap.size + 1, 0, none⟩)]) (by simp) (by simp [go_sem]) ?_
    refine (caught_fail (w.heap.size + 1) x 0 _ hE1).mono ?_
    rintro r u' w'' ⟨rfl, rfl, rfl⟩
    have hc := hE1.setA x (.cells #[.int .i64 x] 71)
    exact ⟨.tuple #[.string (S []), .int .i64 0, .int .i64 x], by simp [results, Try.results13, go_sem, hc]; rfl, rfl, below_setA (HI.out.b.trans (hb1.mono HI.out.b.size)) (Nat.le_succ _) _ _⟩
end Go.Proofs.Ytkdnlmnjhlogmaa
