/- The groups of digits, by the program. -/
import Derived.Test.YtkdnlmnjhlogmaaJ
namespace Go.Proofs.Ytkdnlmnjhlogmaa
open Go.RowKit Go.Shelf
attribute [local go_sem] Oper.semAt_some
set_option linter.unusedSimpArgs false
set_option linter.unusedVariables false

theorem sizes_calls (p s : ByteArray) (A : Option Addr) (c : Nat) (g : List Int) (e : Int) (w : World) :
    Calls Try.prog 46 #[Loc p s A c g e] w fun r w' => r = .returned (.func (.func 60) #[] #[.pointer (some ⟨w.heap.size, 0, none⟩)]) ∧ w.alloc (.cells #[.string p, .string s, .slice A g.length c, .int .i64 e] 24) = w' := by
  have hmf : ∀ (fn : Fn) (first cap : Array Value) (w : World), (Instr.makeFunc fn first cap).run Try.prog w = .ok (.func fn first cap) w := fun _ _ _ _ => rfl
  go_enter Try.func46, Try.ntmps46
  go_wp2
  go_ret
  exact ⟨rfl, rfl⟩

theorem Boxed.turn {W : World} {B : Nat} {t : TypeId} {v : Value} (h : Boxed W B t v) {l : Nat} {o : Obj} (o' : Obj) (hl : W.heap[l]? = some o) (ho : o.isCells = false) : Boxed (W.putObj l o') B t v :=
  (World.putObj_heap_other (fun e => by subst e; rw [show W.heap[B]? = _ from h] at hl; cases hl; cases ho)).trans h
theorem Box.turn {w : World} {n : Nat} {p s : ByteArray} {A : Option Addr} {c : Nat} {g : List Int} {e : Int} (h : Box w n p s A c g e) {l : Nat} {o : Obj} (o' : Obj) (hl : w.heap[l]? = some o) (ho : o.isCells = false) : Box (w.putObj l o') n p s A c g e :=
  (World.putObj_heap_other (fun e' => by subst e'; rw [show w.heap[n]? = _ from h] at hl; cases hl; cases ho)).trans h
theorem below_turn {B : Nat} {w W : World} (h : Below B w W) {l : Nat} {o : Obj} (o' : Obj) (hl : W.heap[l]? = some o) (hB : B ≤ w.heap.size) (hle : B ≤ l) : Below B w (W.putObj l o') :=
  h.grown (grownBy_putObj' W l o') (Nat.le_trans hB h.size) (fun k e => by cases e; exact hle)

/-- Between two rounds. -/
structure GI (w : World) (p s : ByteArray) (A : Option Addr) (c : Nat) (g : List Int) (e : Int) (f : Nat → Int) (n : Int) (k : Nat) (W : World) : Prop where
  bx : Box W (w.heap.size + 1 + 1 + 1) p s A c g e
  bn : Boxed W (w.heap.size + 1) 3 (.int .i64 (stp f n k).1)
  bo : ∃ v, Boxed W (w.heap.size + 1 + 1) 22 v ∧ W.ownsRow (w.heap.size + 1 + 1 + 1 + 1) 3 1 v (stp f n k).2.length ((stp f n k).2.map (.int .i64))
  bl : Below w.heap.size w W
  sz : w.heap.size + 1 + 1 + 1 + 1 ≤ W.heap.size
theorem GI.turn {w : World} {p s : ByteArray} {A : Option Addr} {c : Nat} {g : List Int} {e : Int} {f : Nat → Int} {n : Int} {k : Nat} {W : World} (h : GI w p s A c g e f n k W) {l : Nat} {o : Obj} (o' : Obj) (hl : W.heap[l]? = some o) (ho : o.isCells = false) (hle : w.heap.size ≤ l) : GI w p s A c g e f n k (W.putObj l o') := by
  obtain ⟨v, hv, hr⟩ := h.bo
  exact ⟨h.bx.turn o' hl ho, Boxed.turn h.bn o' hl ho, ⟨v, Boxed.turn hv o' hl ho, ownsRow_putObj hr o' hl ho⟩, below_turn h.bl o' hl (Nat.le_refl _) hle, by rw [World.putObj_size]; exact h.sz⟩
theorem GI.alloc {w : World} {p s : ByteArray} {A : Option Addr} {c : Nat} {g : List Int} {e : Int} {f : Nat → Int} {n : Int} {k : Nat} {W : World} (h : GI w p s A c g e f n k W) (o : Obj) : GI w p s A c g e f n k (W.alloc o) := by
  obtain ⟨v, hv, hr⟩ := h.bo
  exact ⟨h.bx.alloc o, h.bn.alloc o, ⟨v, hv.alloc o, hr.alloc o⟩, h.bl.alloc h.bl.size o, by have := h.sz; simp; omega⟩

theorem own_ge {W : World} {base : Nat} {e : TypeId} {size : Nat} {v : Value} {k : Nat} {xs : List Value} (h : W.ownsRow base e size v k xs) : ∀ j, v.ownBlock = some j → base ≤ j := fun j hj => (h.lt j hj).1
theorem box_grown {W w1 : World} {B base : Nat} {t : TypeId} {u v : Value} {e : TypeId} {size k : Nat} {xs : List Value} (hB : Boxed W B t u) (hr : W.ownsRow base e size v k xs) (hlt : B < base) {tmp : Obj} (hg : (W.alloc tmp).grownBy w1 v.ownBlock) : Boxed w1 B t u :=
  (hB.alloc tmp).kept hg (fun e => by have := own_ge hr B e.symm; omega)
theorem setCell_row {W : World} {base : Nat} {e : TypeId} {size : Nat} {v : Value} {k : Nat} {xs : List Value} (h : W.ownsRow base e size v k xs) {b : Nat} (hb : b < base) (u : Value) : (W.setCell ⟨b, 0, none⟩ u).ownsRow base e size v k xs :=
  h.kept (grownBy_setCell' W b u) (.inr (fun e => by have := own_ge h b e; omega))
theorem GI.next {w : World} {p s : ByteArray} {A : Option Addr} {c : Nat} {g : List Int} {e : Int} {f : Nat → Int} {n : Int} {k : Nat} {W w1 : World} (h : GI w p s A c g e f n k W) {m y : Int} {xs : List Int} {v v' : Value}
    (hv : Boxed W (w.heap.size + 1 + 1) 22 v) (hrow : W.ownsRow (w.heap.size + 1 + 1 + 1 + 1) 3 1 v xs.length (xs.map (.int .i64)))
    (hg : (W.alloc (.cells #[.int .i64 y] 3)).grownBy w1 v.ownBlock)
    (hown : w1.ownsRow (w.heap.size + 1 + 1 + 1 + 1) 3 1 v' (xs.length + 1) (xs.map (.int .i64) ++ [.int .i64 y]))
    (e1 : (stp f n (k + 1)).1 = m) (e2 : (stp f n (k + 1)).2 = xs ++ [y]) :
    KeepsOthers W ((w1.setCell ⟨w.heap.size + 1 + 1, 0, none⟩ v').setCell ⟨w.heap.size + 1, 0, none⟩ (.int .i64 m)) ∧
    GI w p s A c g e f n (k + 1) ((w1.setCell ⟨w.heap.size + 1 + 1, 0, none⟩ v').setCell ⟨w.heap.size + 1, 0, none⟩ (.int .i64 m)) := by
  have hbn1 := box_grown h.bn hrow (by omega) hg
  have hbo1 := box_grown hv hrow (by omega) hg
  have hbx1 : Box w1 (w.heap.size + 1 + 1 + 1) p s A c g e := (hg.block _ (by have := h.bx.lt; simp; omega) (fun e => by have := own_ge hrow _ e.symm; omega)).trans (h.bx.alloc _)
  refine ⟨?_, ?_, ?_, ?_, ?_, ?_⟩
  · refine (((KeepsOthers.alloc W _).trans (KeepsOthers.of_grownBy hg fun j o ej hj => ?_)).trans (KeepsOthers.setCell _ _ _)).trans (KeepsOthers.setCell _ _ _)
    rcases (hrow.alloc (.cells #[.int .i64 y] 3)).2 with ⟨rfl, _⟩ | ⟨g, cap, cur, rfl, _, hgb, _⟩
    · simp [Value.ownBlock] at ej
    · obtain rfl : g = j := by simpa [Value.ownBlock] using ej
      rw [hgb] at hj; cases hj; rfl
  · exact (Below.heap_setCell _ _ _ _ (by show _ ≠ w.heap.size + 1; omega)).trans ((Below.heap_setCell _ _ _ _ (by show _ ≠ w.heap.size + 1 + 1; omega)).trans hbx1)
  · rw [e1]; exact Boxed.set _ (Boxed.other hbn1 (by omega) _)
  · rw [e2]
    refine ⟨v', Boxed.other (Boxed.set v' hbo1) (by omega) _, ?_⟩
    have := setCell_row (setCell_row hown (b := w.heap.size + 1 + 1) (by omega) v') (b := w.heap.size + 1) (by omega) (.int .i64 m)
    simpa using this
  · have b1 := (h.bl.alloc h.bl.size (.cells #[.int .i64 y] 3)).grown hg (by have := h.bl.size; simp; omega) (fun j hj => by have := own_ge hrow j hj; omega)
    exact (b1.setCell (p := ⟨w.heap.size + 1 + 1, 0, none⟩) (by show _ ≤ w.heap.size + 1 + 1; omega) _).setCell (p := ⟨w.heap.size + 1, 0, none⟩) (by show _ ≤ w.heap.size + 1; omega) _
  · have h1 := h.sz
    have h2 := hg.size
    simp at h2 ⊢; omega
theorem info3 : (Try.prog.info? 3).map (fun i => (i.zero, i.size, i.bytes)) = some (some (.int .i64 0), 1, 8) := by kernel_rfl

set_option maxHeartbeats 4000000 in
theorem groups_calls (p s : ByteArray) (A : Option Addr) (c : Nat) (g : List Int) (e n : Int) (w : World) (hg : g.length ≤ maxLen) (hR : Rd .i64 w A g) (one : Bool) (hone : one = ((L s).isEmpty || g.isEmpty))
    (hf : ∀ k, 0 ≤ sz one g k) (hn : 0 ≤ n) (hn' : n ≤ 1000000) :
    Calls Try.prog 45 #[Loc p s A c g e, .int .i64 n] w fun r w' => ∃ v, r = .returned v ∧ Out w' v (grp (sz one g) n) ∧ Below w.heap.size w w' := by
  obtain ⟨f, hff⟩ : ∃ f, sz one g = f := ⟨_, rfl⟩
  rw [hff] at hf ⊢
  obtain ⟨w4, hw4⟩ : ∃ w4, w4 = (((w.alloc (.cells #[.string p, .string s, .slice A g.length c, .int .i64 e] 24)).alloc (.cells #[.int .i64 n] 3)).alloc (.cells #[.slice none 0 0] 22)).alloc (.cells #[.string p, .string s, .slice A g.length c, .int .i64 e] 24) := ⟨_, rfl⟩
  have h4 : GI w p s A c g e f n 0 w4 := by
    subst hw4
    refine ⟨?_, ?_, ⟨.slice none 0 0, ?_, World.ownsRow_nil _ _ _ _⟩, ?_, by simp⟩
    · have := Box.new (((w.alloc (.cells #[.string p, .string s, .slice A g.length c, .int .i64 e] 24)).alloc (.cells #[.int .i64 n] 3)).alloc (.cells #[.slice none 0 0] 22)) p s A c g e
      simpa using this
    · have := Boxed.new (w.alloc (.cells #[.string p, .string s, .slice A g.length c, .int .i64 e] 24)) 3 (.int .i64 n)
      rw [World.size_alloc] at this
      exact (this.alloc _).alloc _
    · have := Boxed.new ((w.alloc (.cells #[.string p, .string s, .slice A g.length c, .int .i64 e] 24)).alloc (.cells #[.int .i64 n] 3)) 22 (.slice none 0 0)
      rw [World.size_alloc, World.size_alloc] at this
      exact this.alloc _
    · exact ((((Below.refl _ _).alloc (Nat.le_refl _) _).alloc (by simp) _).alloc (by simp; omega) _).alloc (by simp; omega) _
  have hs4 : w4.heap.size = w.heap.size + 1 + 1 + 1 + 1 := by subst hw4; simp
  refine (callsIn_wide (n := 9)).1 ?_
  refine callsIn_of_wp_marks Try.func45 rfl trivial ?_ rfl
  simp only [Try.ntmps45, List.size_toArray, List.length_cons, List.length_nil, Nat.reduceAdd, Nat.reduceSub, Array.replicate_succ, Array.replicate_zero, List.push_toArray, List.append_toArray, List.nil_append, List.cons_append]
  gi_wp2_with (refine ⟨trivial, ?_⟩; gi_at_call 46; refine (callsIn_wide.2 (sizes_calls p s A c g e _)).mono ?_; rintro r w1 ⟨rfl, rfl⟩)
  rw [← hw4]
  clear hw4
  have after : ∀ (D k : Nat) (W : World) (t6 t9 : Value), True := fun _ _ _ _ _ => trivial
  refine range_seq (n := 9) (by omega) (gf := 60) (lb := #[.pointer (some ⟨w.heap.size + 1 + 1 + 1, 0, none⟩)]) rfl (enters_of Try.func60 (by kernel_rfl) rfl)
    (enc := fun k => #[.int .i64 (f k)]) (fun _ => rfl) (S := fun k => ∃ j, f j = 0 ∧ k = j + 1) (N := n.toNat + 2)
    (fun k W => GI w p s A c g e f n k W)
    (fun c' k W => c' = .exit 0 ∧ ∃ j, (stp f n j).1 = 0 ∧ GI w p s A c g e f n j W)
    (fun k W l o o' h hle hl ho => h.turn o' hl ho (by omega))
    (fun c' k W l o o' h hle hl ho => by obtain ⟨h1, j, h2, h3⟩ := h; exact ⟨h1, j, h2, h3.turn o' hl ho (by omega)⟩)
    ?iter (fun o => (h4.alloc _).alloc o)
    (fun k => { tmps := #[Loc p s A c g e, .int .i64 n, .pointer (some ⟨w.heap.size, 0, none⟩), .pointer (some ⟨w.heap.size + 1, 0, none⟩), .slice none 0 0, .pointer (some ⟨w.heap.size + 1 + 1, 0, none⟩), .int .i64 (f k),
      Loc p s A c g e, .func (.func 60) #[] #[.pointer (some ⟨w.heap.size + 1 + 1 + 1, 0, none⟩)], .int .i64 (f k), undef, undef, undef, undef, undef, undef, undef, undef, undef, undef, undef, undef, undef, undef, undef, undef, undef, undef, undef, undef], defers := [] })
    ?assign ?body ?done ?stop
  case iter =>
    intro l J Jx hJ hY W h0
    have := sizes1_seq 8 (by omega) p s A c g e l (w.heap.size + 1 + 1 + 1) hg one hone J Jx (fun k W h => ⟨(hJ k W h).bx, hR.below (hJ k W h).bl⟩) (n.toNat + 2) (by unfold maxLen; omega) (by rw [hff]; exact hY) W h0 (by omega)
    refine this.mono ?_
    rintro r W' ⟨hv, ⟨k, hk, hj⟩ | h⟩
    · exact ⟨hv, .inl ⟨k + 1, ⟨k, by rw [← hff]; exact hk, rfl⟩, hj⟩⟩
    · exact ⟨hv, .inr h⟩
  case assign =>
    intro l k W K hK
    gi_wp2
    exact hK
  case body =>
    rintro l k W hI hk
    obtain ⟨i0, hi, hz0, hz1, hz2⟩ := info_parts info3
    obtain ⟨hl0, hl1⟩ := stp_left f hf n hn k
    have hfk := hf k
    have hlen := stp_len f n k
    have hnext : ∀ y : Int, (stp f n k).1 ≠ 0 → ((f k = 0 ∨ (stp f n k).1 < f k) ∧ y = (stp f n k).1) ∨ (¬ (f k = 0 ∨ (stp f n k).1 < f k) ∧ y = f k) →
        (stp f n (k + 1)).1 = (stp f n k).1 - y ∧ (stp f n (k + 1)).2 = (stp f n k).2 ++ [y] := fun y h0 h => by
      simp only [stp, if_neg h0]
      rcases h with ⟨h, rfl⟩ | ⟨h, rfl⟩
      · rw [if_pos h]; exact ⟨by simp, rfl⟩
      · rw [if_neg h]; exact ⟨rfl, rfl⟩
    have HI := Lib.hid hI
    obtain ⟨bx, bn, ⟨v, hv, hrow⟩, bl, hsz⟩ := hI
    obtain ⟨m, hm⟩ : ∃ m, (stp f n k).1 = m := ⟨_, rfl⟩
    obtain ⟨xs, hxs⟩ : ∃ xs, (stp f n k).2 = xs := ⟨_, rfl⟩
    rw [hm] at bn hl0 hl1 hnext
    rw [hxs] at hrow hlen hnext
    have Hm := Lib.hid hm
    have Hxs := Lib.hid hxs
    have Hn := Lib.hid hnext
    have Hff := Lib.hid hff
    clear hm hxs hnext hff bx h4 hs4
    have cn := Boxed.cell bn
    have fz := Boxed.frozen bn
    have co := Boxed.cell hv
    have fo := Boxed.frozen hv
    have Bn := Lib.hid bn
    have Hv := Lib.hid hv
    have Hrow := Lib.hid hrow
    clear bn hv hrow
    obtain ⟨x, hx⟩ : ∃ x, f k = x := ⟨_, rfl⟩
    rw [hx] at Hn hfk ⊢
    clear hx
    by_cases h0 : m = 0
    · subst h0
      gi_wp2
      exact ⟨KeepsOthers.refl _, rfl, k, Hm.out, HI.out⟩
    · have hm0 : (m == 0) = false := beq_eq_false_iff_ne.2 h0
      have hmn : (k : Int) + m ≤ n := by omega
      clear hl1
      by_cases hx0 : x = 0
      · have hx1 : (x == 0) = true := beq_iff_eq.2 hx0
        obtain ⟨q1, q2⟩ := Hn.out m h0 (.inl ⟨.inl hx0, rfl⟩)
        rw [show m - m = 0 by omega] at q1
        have Q1 := Lib.hid q1
        have Q2 := Lib.hid q2
        clear q1 q2 hx0 Hn
        gi_wp2_with (gi_at_builtin; refine wpListIn_append_own _ rfl _ _ 22 rfl (w.heap.size + 1 + 1 + 1 + 1) 3 i0 (.int .i64 0) 1 8 Try.underlying22 hi hz0 hz1 hz2 rfl (by decide) _ _ _ rfl (Hrow.out.alloc _) ⟨W.heap.size, 0, none⟩ 1 1 [.int .i64 m] rfl rfl (cell_one_new _ _ _) (by simp [Value.oneCell']) (by unfold maxLen; omega) (by omega) (by simp; omega) ?_; intro v' w1 hown' hgrow _; obtain ⟨g', cap', rfl⟩ := ownsRow_succ hown'; have Hg := Lib.hid (show (W.alloc (.cells #[.int .i64 m] 3)).grownBy w1 v.ownBlock from hgrow); clear hgrow; have Ho := Lib.hid hown'; clear hown'; have cn1 := Boxed.cell (box_grown Bn.out Hrow.out (by omega) Hg.out); have fz1 := Boxed.frozen (box_grown Bn.out Hrow.out (by omega) Hg.out); have co1 := Boxed.cell (box_grown Hv.out Hrow.out (by omega) Hg.out); have fo1 := Boxed.frozen (box_grown Hv.out Hrow.out (by omega) Hg.out))
        obtain ⟨r1, r2⟩ := GI.next HI.out Hv.out Hrow.out Hg.out Ho.out Q1.out Q2.out
        exact ⟨r1, by omega, r2⟩
      · have hx1 : (x == 0) = false := beq_eq_false_iff_ne.2 hx0
        by_cases hlt : m < x
        · obtain ⟨q1, q2⟩ := Hn.out m h0 (.inl ⟨.inr hlt, rfl⟩)
          rw [show m - m = 0 by omega] at q1
          have Q1 := Lib.hid q1
          have Q2 := Lib.hid q2
          clear q1 q2 hx0 Hn
          gi_wp2_with (gi_at_builtin; refine wpListIn_append_own _ rfl _ _ 22 rfl (w.heap.size + 1 + 1 + 1 + 1) 3 i0 (.int .i64 0) 1 8 Try.underlying22 hi hz0 hz1 hz2 rfl (by decide) _ _ _ rfl (Hrow.out.alloc _) ⟨W.heap.size, 0, none⟩ 1 1 [.int .i64 m] rfl rfl (cell_one_new _ _ _) (by simp [Value.oneCell']) (by unfold maxLen; omega) (by omega) (by simp; omega) ?_; intro v' w1 hown' hgrow _; obtain ⟨g', cap', rfl⟩ := ownsRow_succ hown'; have Hg := Lib.hid (show (W.alloc (.cells #[.int .i64 m] 3)).grownBy w1 v.ownBlock from hgrow); clear hgrow; have Ho := Lib.hid hown'; clear hown'; have cn1 := Boxed.cell (box_grown Bn.out Hrow.out (by omega) Hg.out); have fz1 := Boxed.frozen (box_grown Bn.out Hrow.out (by omega) Hg.out); have co1 := Boxed.cell (box_grown Hv.out Hrow.out (by omega) Hg.out); have fo1 := Boxed.frozen (box_grown Hv.out Hrow.out (by omega) Hg.out))
          obtain ⟨r1, r2⟩ := GI.next HI.out Hv.out Hrow.out Hg.out Ho.out Q1.out Q2.out
          exact ⟨r1, by omega, r2⟩
        · obtain ⟨q1, q2⟩ := Hn.out x h0 (.inr ⟨fun h => h.elim hx0 hlt, rfl⟩)
          have Q1 := Lib.hid q1
          have Q2 := Lib.hid q2
          clear q1 q2 hx0 Hn
          gi_wp2_with (gi_at_builtin; refine wpListIn_append_own _ rfl _ _ 22 rfl (w.heap.size + 1 + 1 + 1 + 1) 3 i0 (.int .i64 0) 1 8 Try.underlying22 hi hz0 hz1 hz2 rfl (by decide) _ _ _ rfl (Hrow.out.alloc _) ⟨W.heap.size, 0, none⟩ 1 1 [.int .i64 x] rfl rfl (cell_one_new _ _ _) (by simp [Value.oneCell']) (by unfold maxLen; omega) (by omega) (by simp; omega) ?_; intro v' w1 hown' hgrow _; obtain ⟨g', cap', rfl⟩ := ownsRow_succ hown'; have Hg := Lib.hid (show (W.alloc (.cells #[.int .i64 x] 3)).grownBy w1 v.ownBlock from hgrow); clear hgrow; have Ho := Lib.hid hown'; clear hown'; have cn1 := Boxed.cell (box_grown Bn.out Hrow.out (by omega) Hg.out); have fz1 := Boxed.frozen (box_grown Bn.out Hrow.out (by omega) Hg.out); have co1 := Boxed.cell (box_grown Hv.out Hrow.out (by omega) Hg.out); have fo1 := Boxed.frozen (box_grown Hv.out Hrow.out (by omega) Hg.out))
          obtain ⟨r1, r2⟩ := GI.next HI.out Hv.out Hrow.out Hg.out Ho.out Q1.out Q2.out
          exact ⟨r1, by omega, r2⟩
  case done =>
    rintro D k W ⟨j, hj0, rfl⟩ hI hD hK
    have h0 := stp_zero f n j hj0
    obtain ⟨bx, bn, ⟨v, hv, hrow⟩, bl, hsz⟩ := hI
    have hlen := stp_len f n (j + 1)
    have hgrp := grp_of f hf n hn (j + 1) h0
    obtain ⟨xs, hxs⟩ : ∃ xs, (stp f n (j + 1)).2 = xs := ⟨_, rfl⟩
    rw [hxs] at hrow hlen hgrp
    have Hgrp := Lib.hid hgrp
    have hlen2 : xs.length ≤ 9223372036854775807 := by
      have e1 : xs.length = (grp f n).length := by rw [← hgrp, List.length_reverse]
      have e2 : (grp f n).length ≤ n.toNat := by rw [grp, List.length_reverse]; exact stp_len f n _
      omega
    have hwD : w.heap.size ≤ D := by omega
    have Hl := Lib.hid hlen2
    have Hrow := Lib.hid hrow
    have co := Boxed.cell hv
    have Hv := Lib.hid hv
    have HK := Lib.hid hK
    have Hbl := Lib.hid bl
    clear hj0
    clear hxs hgrp hlen hlen2 hrow hv hK bl bx bn h0 hf hff h4 hs4
    gi_wp2_with (refine ⟨trivial, ?_⟩; gi_at_call 59; refine (callsIn_wide.2 (reverse_calls _ v xs _ Hrow.out Hl.out)).mono ?_; rintro r w1 ⟨rfl, hout, hb⟩; have Hout := Lib.hid hout; have co1 := Boxed.cell (Boxed.kept Hv.out hb (fun e => by have := own_ge Hrow.out _ e.symm; omega)); have Hb := Lib.hid hb; clear hout hb)
    have hK1 : w1.heap[D]? = some (.deferred (some [])) := by
      refine (Hb.out.block D (Array.getElem?_eq_some_iff.1 HK.out).1 (fun e => ?_)).trans HK.out
      rcases Hrow.out.2 with ⟨rfl, _⟩ | ⟨g', cap, cur, rfl, _, hg', _⟩
      · simp [Value.ownBlock] at e
      · obtain rfl : D = g' := by simpa [Value.ownBlock] using e
        have := HK.out.symm.trans hg'
        simp at this
    have hb2 : Below w.heap.size w w1 := Hbl.out.grown Hb.out Hbl.out.size (fun j hj => by have := own_ge Hrow.out j hj; omega)
    refine ⟨by simp, .inl ⟨_, _, rfl, run_takeDeferred hK1, ?_⟩⟩
    refine ⟨_, results_tmp rfl _ _ _, _, rfl, ?_, below_turn hb2 _ hK1 (Nat.le_refl _) (by omega)⟩
    have := Hout.out
    rw [Hgrp.out] at this
    obtain ⟨A', c', rfl, hr, hl⟩ := this
    refine ⟨A', c', rfl, fun hne => ?_, hl⟩
    obtain ⟨b', o', rfl, hc⟩ := hr hne
    refine ⟨b', o', rfl, fun j x hx => ?_⟩
    have hcc := hc j x hx
    rw [← hcc]
    refine World.cell?_of_block (w := w1) (World.putObj_heap_other (fun e => ?_))
    subst e
    simp [World.cell?, hK1] at hcc
  case stop =>
    rintro D c' k W ⟨rfl, j, h0, hI⟩ hD hK
    obtain ⟨bx, bn, ⟨v, hv, hrow⟩, bl, hsz⟩ := hI
    have hlen := stp_len f n j
    have hgrp := grp_of f hf n hn j h0
    obtain ⟨xs, hxs⟩ : ∃ xs, (stp f n j).2 = xs := ⟨_, rfl⟩
    rw [hxs] at hrow hlen hgrp
    have Hgrp := Lib.hid hgrp
    have hlen2 : xs.length ≤ 9223372036854775807 := by
      have e1 : xs.length = (grp f n).length := by rw [← hgrp, List.length_reverse]
      have e2 : (grp f n).length ≤ n.toNat := by rw [grp, List.length_reverse]; exact stp_len f n _
      omega
    have hwD : w.heap.size ≤ D := by omega
    have Hl := Lib.hid hlen2
    have Hrow := Lib.hid hrow
    have co := Boxed.cell hv
    have Hv := Lib.hid hv
    have HK := Lib.hid hK
    have Hbl := Lib.hid bl
    clear hxs hgrp hlen hlen2 hrow hv hK bl bx bn h0 hf hff h4 hs4
    gi_wp2_with (refine ⟨trivial, ?_⟩; gi_at_call 59; refine (callsIn_wide.2 (reverse_calls _ v xs _ Hrow.out Hl.out)).mono ?_; rintro r w1 ⟨rfl, hout, hb⟩; have Hout := Lib.hid hout; have co1 := Boxed.cell (Boxed.kept Hv.out hb (fun e => by have := own_ge Hrow.out _ e.symm; omega)); have Hb := Lib.hid hb; clear hout hb)
    have hK1 : w1.heap[D]? = some (.deferred (some [])) := by
      refine (Hb.out.block D (Array.getElem?_eq_some_iff.1 HK.out).1 (fun e => ?_)).trans HK.out
      rcases Hrow.out.2 with ⟨rfl, _⟩ | ⟨g', cap, cur, rfl, _, hg', _⟩
      · simp [Value.ownBlock] at e
      · obtain rfl : D = g' := by simpa [Value.ownBlock] using e
        have := HK.out.symm.trans hg'
        simp at this
    have hb2 : Below w.heap.size w w1 := Hbl.out.grown Hb.out Hbl.out.size (fun j hj => by have := own_ge Hrow.out j hj; omega)
    refine ⟨by simp, .inl ⟨_, _, rfl, run_takeDeferred hK1, ?_⟩⟩
    refine ⟨_, results_tmp rfl _ _ _, _, rfl, ?_, below_turn hb2 _ hK1 (Nat.le_refl _) (by omega)⟩
    have := Hout.out
    rw [Hgrp.out] at this
    obtain ⟨A', c', rfl, hr, hl⟩ := this
    refine ⟨A', c', rfl, fun hne => ?_, hl⟩
    obtain ⟨b', o', rfl, hc⟩ := hr hne
    refine ⟨b', o', rfl, fun j x hx => ?_⟩
    have hcc := hc j x hx
    rw [← hcc]
    refine World.cell?_of_block (w := w1) (World.putObj_heap_other (fun e => ?_))
    subst e
    simp [World.cell?, hK1] at hcc
end Go.Proofs.Ytkdnlmnjhlogmaa
