/- Whether a beginning is grouped, by the program. -/
import Derived.Test.YtkdnlmnjhlogmaaU
namespace Go.Proofs.Ytkdnlmnjhlogmaa
open Go.RowKit Go.Shelf
attribute [local go_sem] Oper.semAt_some
set_option linter.unusedSimpArgs false
set_option linter.unusedVariables false

/-- What the run in front of the k-th separator from the end (k = 0: the last run) has to be. -/
def goodAt (f : Nat → Int) (rs : List Int) (q k : Nat) : Bool :=
  if k = q then decide (f k = 0 ∨ rs.getD 0 0 ≤ f k) else decide (f k ≠ 0) && (if k = 0 then decide (f k ≤ rs.getD (q - k) 0) else decide (rs.getD (q - k) 0 = f k))
def goodAll (f : Nat → Int) (rs : List Int) (q : Nat) : Bool := (List.range (q + 1)).all (goodAt f rs q)

/-- Between two rounds. -/
structure QI (w : World) (p s : ByteArray) (A : Option Addr) (c : Nat) (g : List Int) (e : Int) (A2 : Option Addr) (c2 : Nat) (rs : List Int) (q : Nat) (f : Nat → Int) (k : Nat) (W : World) : Prop where
  bx : Box W (w.heap.size + 6) p s A c g e
  b4 : Boxed W (w.heap.size + 1) 22 (.slice A2 rs.length c2)
  b5 : Boxed W (w.heap.size + 2) 3 (.int .i64 q)
  b6 : ∃ x, Boxed W (w.heap.size + 3) 3 x
  b7 : ∃ x, Boxed W (w.heap.size + 4) 4 x
  b8 : Boxed W (w.heap.size + 5) 3 (.int .i64 ((q : Int) - k))
  bl : Below w.heap.size w W
  hk : k ≤ q
  gd : ∀ j, j < k → goodAt f rs q j = true

/-- Where a round has returned. -/
structure QE (w : World) (b : Bool) (W : World) : Prop where
  b6 : ∃ x, Boxed W (w.heap.size + 3) 3 (.int .i64 x)
  b7 : Boxed W (w.heap.size + 4) 4 (.bool b)
  bl : Below w.heap.size w W
theorem QE.turn {w : World} {b : Bool} {W : World} (h : QE w b W) {l : Nat} {o : Obj} (o' : Obj) (hl : W.heap[l]? = some o) (ho : o.isCells = false) (hle : w.heap.size ≤ l) : QE w b (W.putObj l o') := by
  obtain ⟨x, hx⟩ := h.b6
  exact ⟨⟨x, Boxed.turn hx o' hl ho⟩, Boxed.turn h.b7 o' hl ho, below_turn h.bl o' hl (Nat.le_refl _) hle⟩

theorem QI.turn {w : World} {p s : ByteArray} {A : Option Addr} {c : Nat} {g : List Int} {e : Int} {A2 : Option Addr} {c2 : Nat} {rs : List Int} {q k : Nat} {f : Nat → Int} {W : World} (h : QI w p s A c g e A2 c2 rs q f k W) {l : Nat} {o : Obj} (o' : Obj) (hl : W.heap[l]? = some o) (ho : o.isCells = false) (hle : w.heap.size ≤ l) : QI w p s A c g e A2 c2 rs q f k (W.putObj l o') := by
  obtain ⟨x, hx⟩ := h.b6
  obtain ⟨y, hy⟩ := h.b7
  exact ⟨h.bx.turn o' hl ho, Boxed.turn h.b4 o' hl ho, Boxed.turn h.b5 o' hl ho, ⟨x, Boxed.turn hx o' hl ho⟩, ⟨y, Boxed.turn hy o' hl ho⟩, Boxed.turn h.b8 o' hl ho, below_turn h.bl o' hl (Nat.le_refl _) hle, h.hk, h.gd⟩
theorem QI.alloc {w : World} {p s : ByteArray} {A : Option Addr} {c : Nat} {g : List Int} {e : Int} {A2 : Option Addr} {c2 : Nat} {rs : List Int} {q k : Nat} {f : Nat → Int} {W : World} (h : QI w p s A c g e A2 c2 rs q f k W) (o : Obj) : QI w p s A c g e A2 c2 rs q f k (W.alloc o) := by
  obtain ⟨x, hx⟩ := h.b6
  obtain ⟨y, hy⟩ := h.b7
  exact ⟨h.bx.alloc o, h.b4.alloc o, h.b5.alloc o, ⟨x, hx.alloc o⟩, ⟨y, hy.alloc o⟩, h.b8.alloc o, h.bl.alloc h.bl.size o, h.hk, h.gd⟩

theorem goodAll_at (f : Nat → Int) (rs : List Int) (q k : Nat) (hk : k ≤ q) (h : goodAt f rs q k = false) : goodAll f rs q = false := by
  rw [goodAll, List.all_eq_false]; exact ⟨k, List.mem_range.2 (by omega), by simp [h]⟩
theorem goodAll_end (f : Nat → Int) (rs : List Int) (q : Nat) (h : ∀ j, j < q → goodAt f rs q j = true) (b : Bool) (hb : goodAt f rs q q = b) : goodAll f rs q = b := by
  cases b
  · exact goodAll_at f rs q q (Nat.le_refl _) hb
  · rw [goodAll, List.all_eq_true]
    intro j hj
    have := List.mem_range.1 hj
    by_cases e : j = q
    · rw [e]; exact hb
    · exact h j (by omega)

theorem qe_end {w : World} {W : World} {x6 x7 : Value} (h6 : Boxed W (w.heap.size + 3) 3 x6) (h7 : Boxed W (w.heap.size + 4) 4 x7) (hb : Below w.heap.size w W) (x : Int) (b : Bool) :
    KeepsOthers W ((W.setCell ⟨w.heap.size + 3, 0, none⟩ (.int .i64 x)).setCell ⟨w.heap.size + 4, 0, none⟩ (.bool b)) ∧ QE w b ((W.setCell ⟨w.heap.size + 3, 0, none⟩ (.int .i64 x)).setCell ⟨w.heap.size + 4, 0, none⟩ (.bool b)) :=
  ⟨(KeepsOthers.setCell _ _ _).trans (KeepsOthers.setCell _ _ _), ⟨x, Boxed.other (Boxed.set _ h6) (by omega) _⟩, Boxed.set _ (Boxed.other h7 (by omega) _),
    (hb.setCell (p := ⟨w.heap.size + 3, 0, none⟩) (Nat.le_add_right _ _) _).setCell (p := ⟨w.heap.size + 4, 0, none⟩) (Nat.le_add_right _ _) _⟩
theorem qe_drew {w : World} {b : Bool} {W W' : World} (h : KeepsOthers W W' ∧ QE w b W') : KeepsOthers W W'.drew ∧ QE w b W'.drew :=
  ⟨h.1.trans (KeepsOthers.drew _), h.2.b6, h.2.b7, ⟨h.2.bl.os, h.2.bl.tape, h.2.bl.output, h.2.bl.size, h.2.bl.block⟩⟩

def noDefer (o : Oper) : Bool := match o.op with | .defer _ => false | _ => true
/-- A region that defers nothing draws its order in a round as it does out of it. -/
theorem unround {F : Fence} {n : Nat} {P : Program} {ops : Array Oper} {Q : Exit → Act → World → Prop} {md : Region.Mode} (l : Nat) (hF : F.round = none) (hd : ops.all noDefer = true) :
    ∀ (fuel : Nat) (listed : Array Bool) (a : Act) (w : World), wpAnyIn F n P md ops Q fuel listed a w → wpAnyIn (F.inRound l) n P md ops Q fuel listed a w
  | 0, _, _, _, h => h
  | fuel + 1, listed, a, w, h => by
    refine ⟨h.1, fun i hi => ?_⟩
    have h2 := wpOpIn_mono (fun a w => unround l hF hd fuel (listed.setIfInBounds i true) a w) (h.2 i hi)
    unfold wpOpIn at *
    cases ho : ops[i]? with
    | none => simp only [ho] at h2 ⊢; exact h2
    | some o =>
      simp only [ho] at h2 ⊢
      have hnd : ∀ c, o.op ≠ .defer c := fun c e => by
        have h1 := Array.all_eq_true.1 hd i (Array.getElem?_eq_some_iff.1 ho).1
        rw [(Array.getElem?_eq_some_iff.1 ho).2, noDefer, e] at h1
        cases h1
      split
      · rename_i hw
        simp only [hw, if_true] at h2
        unfold Oper.wpIn at *
        rw [Oper.semAt_eq _ _ _ hnd] at h2 ⊢
        exact h2
      · rename_i hw
        simp only [hw] at h2
        exact h2

set_option maxHeartbeats 4000000 in
theorem grouped_calls (p s : ByteArray) (A : Option Addr) (c : Nat) (g : List Int) (e : Int) (A2 : Option Addr) (c2 : Nat) (rs : List Int) (q : Nat) (w : World) (hg : g.length ≤ maxLen) (hR : Rd .i64 w A g) (one : Bool) (hone : one = ((L s).isEmpty || g.isEmpty))
    (hf : ∀ k, 0 ≤ sz one g k) (hR2 : Rd .i64 w A2 rs) (hq0 : 0 < q) (hq : q < rs.length) (hrs : rs.length ≤ 1000000) :
    Calls Try.prog 40 #[Loc p s A c g e, .slice A2 rs.length c2, .int .i64 q] w fun r w' => ∃ x, r = .returned (.tuple #[x, .bool (goodAll (sz one g) rs q)]) ∧ Below w.heap.size w w' := by
  obtain ⟨f, hff⟩ : ∃ f, sz one g = f := ⟨_, rfl⟩
  rw [hff] at hf ⊢
  obtain ⟨w7, hw7⟩ : ∃ w7, w7 = (((((((w.alloc (.cells #[.string p, .string s, .slice A g.length c, .int .i64 e] 24)).alloc (.cells #[.slice A2 rs.length c2] 22)).alloc (.cells #[.int .i64 q] 3)).alloc (.cells #[.int .i64 0] 3)).alloc (.cells #[.bool false] 4)).alloc (.cells #[.int .i64 q] 3)).alloc (.cells #[.string p, .string s, .slice A g.length c, .int .i64 e] 24)) := ⟨_, rfl⟩
  have hs7 : w7.heap.size = w.heap.size + 7 := by subst hw7; simp
  have h7 : QI w p s A c g e A2 c2 rs q f 0 w7 := by
    subst hw7
    have nb : ∀ (W : World) (n : Nat) (t : TypeId) (v : Value), W.heap.size = n → Boxed (W.alloc (.cells #[v] t)) n t v := fun W n t v h => by subst h; exact Boxed.new W t v
    refine ⟨?_, ?_, ?_, ⟨.int .i64 0, ?_⟩, ⟨.bool false, ?_⟩, ?_, ?_, Nat.zero_le _, fun j hj => absurd hj (Nat.not_lt_zero _)⟩
    · have := Box.new ((((((w.alloc (.cells #[.string p, .string s, .slice A g.length c, .int .i64 e] 24)).alloc (.cells #[.slice A2 rs.length c2] 22)).alloc (.cells #[.int .i64 q] 3)).alloc (.cells #[.int .i64 0] 3)).alloc (.cells #[.bool false] 4)).alloc (.cells #[.int .i64 q] 3)) p s A c g e
      simpa using this
    · exact (((((nb _ _ 22 _ (by simp)).alloc _).alloc _).alloc _).alloc _).alloc _
    · exact ((((nb _ _ 3 _ (by simp)).alloc _).alloc _).alloc _).alloc _
    · exact (((nb _ _ 3 _ (by simp)).alloc _).alloc _).alloc _
    · exact ((nb _ _ 4 _ (by simp)).alloc _).alloc _
    · simpa using (nb _ _ 3 _ (by simp)).alloc _
    · exact (((((((Below.refl _ _).alloc (Nat.le_refl _) _).alloc (by simp) _).alloc (by simp; omega) _).alloc (by simp; omega) _).alloc (by simp; omega) _).alloc (by simp; omega) _).alloc (by simp; omega) _
  refine (callsIn_wide (n := 9)).1 ?_
  refine callsIn_of_wp_marks Try.func40 rfl trivial ?_ rfl
  simp only [Try.ntmps40, List.size_toArray, List.length_cons, List.length_nil, Nat.reduceAdd, Nat.reduceSub, Array.replicate_succ, Array.replicate_zero, List.push_toArray, List.append_toArray, List.nil_append, List.cons_append]
  gi_wp2_with (refine ⟨trivial, ?_⟩; gi_at_call 46; refine (callsIn_wide.2 (sizes_calls p s A c g e _)).mono ?_; rintro r w1 ⟨rfl, rfl⟩)
  simp only [Nat.add_assoc, Nat.reduceAdd]
  rw [← hw7]
  clear hw7
  refine range_seq (n := 9) (by omega) (gf := 60) (lb := #[.pointer (some ⟨w.heap.size + 6, 0, none⟩)]) rfl (enters_of Try.func60 (by kernel_rfl) rfl)
    (enc := fun k => #[.int .i64 (f k)]) (fun _ => rfl) (S := fun k => ∃ j, f j = 0 ∧ k = j + 1) (N := q + 2)
    (fun k W => QI w p s A c g e A2 c2 rs q f k W)
    (fun c' k W => c' = .ret ∧ QE w (goodAll f rs q) W)
    (fun k W l o o' h hle hl ho => h.turn o' hl ho (by omega))
    (fun c' k W l o o' h hle hl ho => by obtain ⟨h1, h2⟩ := h; exact ⟨h1, h2.turn o' hl ho (by omega)⟩)
    ?iter (fun o => (h7.alloc _).alloc o)
    (fun k => { tmps := #[Loc p s A c g e, .slice A2 rs.length c2, .int .i64 q, .pointer (some ⟨w.heap.size, 0, none⟩), .pointer (some ⟨w.heap.size + 1, 0, none⟩), .pointer (some ⟨w.heap.size + 2, 0, none⟩), .pointer (some ⟨w.heap.size + 3, 0, none⟩), .pointer (some ⟨w.heap.size + 4, 0, none⟩), .pointer (some ⟨w.heap.size + 5, 0, none⟩),
      .int .i64 (f k), .int .i64 q, Loc p s A c g e, .func (.func 60) #[] #[.pointer (some ⟨w.heap.size + 6, 0, none⟩)], .int .i64 (f k),
      undef, undef, undef, undef, undef, undef, undef, undef, undef, undef, undef, undef, undef, undef, undef, undef, undef, undef, undef, undef, undef, undef, undef, undef, undef, undef, undef, undef, undef, undef, undef, undef, undef, undef, undef, undef, undef, undef, undef, undef], defers := [] })
    ?assign ?body ?done ?stop
  case iter =>
    intro l J Jx hJ hY W h0
    have := sizes1_seq 8 (by omega) p s A c g e l (w.heap.size + 6) hg one hone J Jx (fun k W h => ⟨(hJ k W h).bx, hR.below (hJ k W h).bl⟩) (q + 2) (by unfold maxLen; omega) (by rw [hff]; exact hY) W h0 (by omega)
    refine this.mono ?_
    rintro r W' ⟨hv, ⟨k, hk, hj⟩ | h⟩
    · exact ⟨hv, .inl ⟨k + 1, ⟨k, by rw [← hff]; exact hk, rfl⟩, hj⟩⟩
    · exact ⟨hv, .inr h⟩
  case assign =>
    intro l k W K hK
    gi_wp2
    exact hK
  case body =>
    rintro l k W hI hk
    clear h7 hs7 hone hR hf hff
    have HI := Lib.hid hI
    obtain ⟨bx, b4, b5, ⟨x6, b6⟩, ⟨x7, b7⟩, b8, bl, hkq, gd⟩ := hI
    have hkn : ((q : Int) - k).toNat = q - k := by omega
    have hrne : rs ≠ [] := fun e => by rw [e] at hq; simp at hq
    have hR2' := hR2.below bl
    obtain ⟨o2, oo2, rfl, hc0⟩ := hR2 hrne
    obtain ⟨_, _, h, hc⟩ := hR2' hrne
    cases h
    clear hR2'
    obtain ⟨y, hy⟩ : ∃ y, rs[q - k]? = some y := ⟨rs[q - k]'(by omega), List.getElem?_eq_getElem _⟩
    obtain ⟨y0, hy0⟩ : ∃ y, rs[0]? = some y := ⟨rs[0]'(by omega), List.getElem?_eq_getElem _⟩
    have Ho2 : Hid (o2 < w.heap.size) := Lib.hid (World.block_lt_of_cell? _ _ (hc0 0 y0 hy0))
    have cy := hc _ y hy
    have cy0 := hc _ y0 hy0
    rw [Nat.add_zero] at cy0
    have cy' := cy
    rw [← hkn] at cy
    have hgy : rs.getD (q - k) 0 = y := by rw [List.getD_eq_getElem?_getD, hy]; rfl
    have hgy0 : rs.getD 0 0 = y0 := by rw [List.getD_eq_getElem?_getD, hy0]; rfl
    have Hgd : Hid (goodAt f rs q k = if k = q then decide (f k = 0 ∨ y0 ≤ f k) else decide (f k ≠ 0) && (if k = 0 then decide (f k ≤ y) else decide (y = f k))) := Lib.hid (by rw [goodAt, hgy, hgy0])
    have c4 := Boxed.cell b4
    have c5 := Boxed.cell b5
    have c6 := Boxed.cell b6
    have z6 := Boxed.frozen b6
    have c7 := Boxed.cell b7
    have z7 := Boxed.frozen b7
    have c8 := Boxed.cell b8
    have z8 := Boxed.frozen b8
    have B6 := Lib.hid b6
    have B7 := Lib.hid b7
    have B8 := Lib.hid b8
    have Gd := Lib.hid gd
    have Bl := Lib.hid bl
    clear hc hc0 hrne hy hy0 hgy hgy0 bx b4 b5 b6 b7 b8 gd bl
    obtain ⟨z, hz⟩ : ∃ z, f k = z := ⟨_, rfl⟩
    rw [hz] at Hgd ⊢
    clear hz
    obtain ⟨R, HR⟩ : ∃ R, Hid (goodAll f rs q = R) := ⟨_, Lib.hid rfl⟩
    rw [HR.out]
    by_cases hkq' : k = q
    · subst hkq'
      have hi0 : ((k : Int) - k == 0) = true := by rw [beq_iff_eq]; omega
      have hgd0 := Hgd.out
      rw [if_pos rfl] at hgd0
      have hall := goodAll_end f rs k Gd.out _ hgd0
      rw [HR.out] at hall
      have Hall := Lib.hid hall
      clear hgd0 hall
      by_cases hz0 : z = 0
      · subst hz0
        gi_wp2
        refine wpIn_mono (Q := fun e a' W' => e = .normal ∧ W' = ((W.setCell ⟨w.heap.size + 3, 0, none⟩ (.int .i64 0)).setCell ⟨w.heap.size + 4, 0, none⟩ (.bool true)).drew) ?_ ?_
        · clear Hall HI Hgd HR Gd B6 B7 B8 Bl cy c5 c8 hkn hkq hk
          refine wpIn_region_any (by kernel_rfl) ?_
          refine unround l rfl (by kernel_rfl) _ _ _ _ ?_
          change wpAnyIn _ _ _ _ _ _ 12 #[false, false, false, false, false, false, false, false, false, false, false, false] _ (World.drew _)
          refine wpAnyIn_take (i := 0) (v := ?_) rfl rfl (by kernel_rfl) (by kernel_rfl) (by kernel_rfl) (fun _ _ _ h => h) ⟨Or.inl ⟨by rfl, ?_⟩, fun _ => rfl⟩ ?_
          rotate_left
          · intro w'; go_simp; try with_reducible rfl
          go_simp
          refine wpAnyIn_take (i := 1) (v := ?_) rfl rfl (by kernel_rfl) (by kernel_rfl) (by kernel_rfl) (fun _ _ _ h => h) ⟨Or.inl ⟨by rfl, ?_⟩, fun _ => rfl⟩ ?_
          rotate_left
          · intro w'; go_simp; try with_reducible rfl
          go_simp
          refine wpAnyIn_take (i := 2) (v := ?_) rfl rfl (by kernel_rfl) (by kernel_rfl) (by kernel_rfl) (fun _ _ _ h => h) ⟨Or.inl ⟨by rfl, ?_⟩, fun _ => rfl⟩ ?_
          rotate_left
          · intro w'; go_simp; try with_reducible rfl
          go_simp
          refine wpAnyIn_take (i := 3) (v := ?_) rfl rfl (by kernel_rfl) (by kernel_rfl) (by kernel_rfl) (fun _ _ _ h => h) ⟨Or.inl ⟨by rfl, ?_⟩, fun _ => rfl⟩ ?_
          rotate_left
          · intro w'; go_simp; try with_reducible rfl
          go_simp
          refine wpAnyIn_take (i := 4) (v := undef) rfl rfl (by kernel_rfl) (by kernel_rfl) (by kernel_rfl) (fun _ _ _ h => h) ⟨Or.inr ⟨by rfl, rfl⟩, fun _ => rfl⟩ ?_
          go_simp
          refine wpAnyIn_take (i := 5) (v := undef) rfl rfl (by kernel_rfl) (by kernel_rfl) (by kernel_rfl) (fun _ _ _ h => h) ⟨Or.inr ⟨by rfl, rfl⟩, fun _ => rfl⟩ ?_
          go_simp
          refine wpAnyIn_take (i := 6) (v := undef) rfl rfl (by kernel_rfl) (by kernel_rfl) (by kernel_rfl) (fun _ _ _ h => h) ⟨Or.inr ⟨by rfl, rfl⟩, fun _ => rfl⟩ ?_
          go_simp
          refine wpAnyIn_take (i := 7) (v := undef) rfl rfl (by kernel_rfl) (by kernel_rfl) (by kernel_rfl) (fun _ _ _ h => h) ⟨Or.inr ⟨by rfl, rfl⟩, fun _ => rfl⟩ ?_
          go_simp
          refine wpAnyIn_take (i := 8) (v := undef) rfl rfl (by kernel_rfl) (by kernel_rfl) (by kernel_rfl) (fun _ _ _ h => h) ⟨Or.inr ⟨by rfl, rfl⟩, fun _ => rfl⟩ ?_
          go_simp
          refine wpAnyIn_take (i := 9) (v := ?_) rfl rfl (by kernel_rfl) (by kernel_rfl) (by kernel_rfl) (fun _ _ _ h => h) ⟨Or.inl ⟨by rfl, ?_⟩, fun _ => rfl⟩ ?_
          rotate_left
          · intro w'; go_simp; try with_reducible rfl
          go_simp
          refine wpAnyIn_ready (rs := [10]) (by kernel_rfl) (by simp) (AllReadyIn.cons rfl (fun K hK => ?_) AllReadyIn.nil)
          go_simp
          refine hK _ _ ?_
          clear hK K
          refine wpAnyIn_ready (rs := [11]) (by kernel_rfl) (by simp) (AllReadyIn.cons rfl (fun K hK => ?_) AllReadyIn.nil)
          go_simp
          refine hK _ _ ?_
          clear hK K
          refine wpAnyIn_done (by kernel_rfl) ?_ _
          exact ⟨rfl, rfl⟩
        · rintro e a' W' ⟨rfl, rfl⟩
          gi_wp2
          obtain ⟨h1, h2⟩ := qe_drew (qe_end B6.out B7.out Bl.out 0 true)
          refine ⟨h1, rfl, ?_⟩
          rw [Hall.out]
          simpa using h2
      · obtain ⟨b, hb⟩ : ∃ b, decide (y0 ≤ z) = b := ⟨_, rfl⟩
        have hRb : R = b := by rw [Hall.out, ← hb]; simp [hz0]
        have HRb := Lib.hid hRb
        have hz1 : (z == 0) = false := beq_eq_false_iff_ne.2 hz0
        have ho2 : o2 < w.heap.size := Ho2.out
        have hlo := Bl.out.size
        have hrl : 0 < rs.length := by omega
        have d4 : (W.setCell ⟨w.heap.size + 3, 0, none⟩ (.int .i64 z)).cell? ⟨w.heap.size + 1, 0, none⟩ = some (Value.slice (some ⟨o2, oo2, none⟩) rs.length c2) := by
          exact (World.cell?_of_block (Below.heap_setCell _ _ _ _ (by show w.heap.size + 1 ≠ w.heap.size + 3; omega))).trans c4
        have d0 : (W.setCell ⟨w.heap.size + 3, 0, none⟩ (.int .i64 z)).cell? ⟨o2, oo2, none⟩ = some (.int .i64 y0) := by
          exact (World.cell?_of_block (Below.heap_setCell _ _ _ _ (by show o2 ≠ w.heap.size + 3; omega))).trans cy0
        gi_wp2
        refine wpIn_mono (Q := fun e a' W' => e = .normal ∧ W' = ((W.setCell ⟨w.heap.size + 3, 0, none⟩ (.int .i64 z)).setCell ⟨w.heap.size + 4, 0, none⟩ (.bool b)).drew) ?_ ?_
        · clear HI Hgd HR Gd B6 B7 B8 Bl cy c5 c8 hkn hkq hk Hall HRb
          refine wpIn_region_any (by kernel_rfl) ?_
          refine unround l rfl (by kernel_rfl) _ _ _ _ ?_
          change wpAnyIn _ _ _ _ _ _ 12 #[false, false, false, false, false, false, false, false, false, false, false, false] _ (World.drew _)
          refine wpAnyIn_take (i := 0) (v := ?_) rfl rfl (by kernel_rfl) (by kernel_rfl) (by kernel_rfl) (fun _ _ _ h => h) ⟨Or.inl ⟨by rfl, ?_⟩, fun _ => rfl⟩ ?_
          rotate_left
          · intro w'; go_simp; try with_reducible rfl
          go_simp
          refine wpAnyIn_take (i := 1) (v := ?_) rfl rfl (by kernel_rfl) (by kernel_rfl) (by kernel_rfl) (fun _ _ _ h => h) ⟨Or.inl ⟨by rfl, ?_⟩, fun _ => rfl⟩ ?_
          rotate_left
          · intro w'; go_simp; try with_reducible rfl
          go_simp
          refine wpAnyIn_take (i := 2) (v := ?_) rfl rfl (by kernel_rfl) (by kernel_rfl) (by kernel_rfl) (fun _ _ _ h => h) ⟨Or.inl ⟨by rfl, ?_⟩, fun _ => rfl⟩ ?_
          rotate_left
          · intro w'; go_simp; try with_reducible rfl
          go_simp
          refine wpAnyIn_take (i := 3) (v := ?_) rfl rfl (by kernel_rfl) (by kernel_rfl) (by kernel_rfl) (fun _ _ _ h => h) ⟨Or.inl ⟨by rfl, ?_⟩, fun _ => rfl⟩ ?_
          rotate_left
          · intro w'; go_simp; try with_reducible rfl
          go_simp
          refine wpAnyIn_take (i := 7) (v := ?_) rfl rfl (by kernel_rfl) (by kernel_rfl) (by kernel_rfl) (fun _ _ _ h => h) ⟨Or.inl ⟨by rfl, ?_⟩, fun _ => rfl⟩ ?_
          rotate_left
          · intro w'; go_simp; try with_reducible rfl
          go_simp
          refine wpAnyIn_ready (rs := [4, 10]) (by kernel_rfl) (by simp) (AllReadyIn.cons rfl (fun K hK => ?_) (AllReadyIn.cons rfl (fun K hK => ?_) AllReadyIn.nil))
          · go_simp
            refine hK _ _ ?_
            clear hK K
            refine wpAnyIn_take (i := 5) (v := ?_) rfl rfl (by kernel_rfl) (by kernel_rfl) (by kernel_rfl) (fun _ _ _ h => h) ⟨Or.inl ⟨by rfl, ?_⟩, fun _ => rfl⟩ ?_
            rotate_left
            · intro w'; go_simp; try with_reducible rfl
            go_simp
            refine wpAnyIn_ready (rs := [6, 10]) (by kernel_rfl) (by simp) (AllReadyIn.cons rfl (fun K hK => ?_) (AllReadyIn.cons rfl (fun K hK => ?_) AllReadyIn.nil))
            · go_simp
              refine hK _ _ ?_
              clear hK K
              refine wpAnyIn_take (i := 8) (v := ?_) rfl rfl (by kernel_rfl) (by kernel_rfl) (by kernel_rfl) (fun _ _ _ h => h) ⟨Or.inl ⟨by rfl, ?_⟩, fun _ => rfl⟩ ?_
              rotate_left
              · intro w'; go_simp; try with_reducible rfl
              go_simp
              refine wpAnyIn_take (i := 9) (v := ?_) rfl rfl (by kernel_rfl) (by kernel_rfl) (by kernel_rfl) (fun _ _ _ h => h) ⟨Or.inl ⟨by rfl, ?_⟩, fun _ => rfl⟩ ?_
              rotate_left
              · intro w'; go_simp; try with_reducible rfl
              go_simp
              refine wpAnyIn_ready (rs := [10]) (by kernel_rfl) (by simp) (AllReadyIn.cons rfl (fun K hK => ?_) AllReadyIn.nil)
              go_simp
              refine hK _ _ ?_
              clear hK K
              refine wpAnyIn_ready (rs := [11]) (by kernel_rfl) (by simp) (AllReadyIn.cons rfl (fun K hK => ?_) AllReadyIn.nil)
              go_simp
              refine hK _ _ ?_
              clear hK K
              refine wpAnyIn_done (by kernel_rfl) ?_ _
              exact ⟨rfl, rfl⟩
            · go_simp
              refine hK _ _ ?_
              clear hK K
              refine wpAnyIn_ready (rs := [6]) (by kernel_rfl) (by simp) (AllReadyIn.cons rfl (fun K hK => ?_) AllReadyIn.nil)
              go_simp
              refine hK _ _ ?_
              clear hK K
              refine wpAnyIn_take (i := 8) (v := ?_) rfl rfl (by kernel_rfl) (by kernel_rfl) (by kernel_rfl) (fun _ _ _ h => h) ⟨Or.inl ⟨by rfl, ?_⟩, fun _ => rfl⟩ ?_
              rotate_left
              · intro w'; go_simp; try with_reducible rfl
              go_simp
              refine wpAnyIn_take (i := 9) (v := ?_) rfl rfl (by kernel_rfl) (by kernel_rfl) (by kernel_rfl) (fun _ _ _ h => h) ⟨Or.inl ⟨by rfl, ?_⟩, fun _ => rfl⟩ ?_
              rotate_left
              · intro w'; go_simp; try with_reducible rfl
              go_simp
              refine wpAnyIn_ready (rs := [11]) (by kernel_rfl) (by simp) (AllReadyIn.cons rfl (fun K hK => ?_) AllReadyIn.nil)
              go_simp
              refine hK _ _ ?_
              clear hK K
              refine wpAnyIn_done (by kernel_rfl) ?_ _
              exact ⟨rfl, rfl⟩
          · go_simp
            refine hK _ _ ?_
            clear hK K
            refine wpAnyIn_ready (rs := [4]) (by kernel_rfl) (by simp) (AllReadyIn.cons rfl (fun K hK => ?_) AllReadyIn.nil)
            go_simp
            refine hK _ _ ?_
            clear hK K
            refine wpAnyIn_take (i := 5) (v := ?_) rfl rfl (by kernel_rfl) (by kernel_rfl) (by kernel_rfl) (fun _ _ _ h => h) ⟨Or.inl ⟨by rfl, ?_⟩, fun _ => rfl⟩ ?_
            rotate_left
            · intro w'; go_simp; try with_reducible rfl
            go_simp
            refine wpAnyIn_ready (rs := [6]) (by kernel_rfl) (by simp) (AllReadyIn.cons rfl (fun K hK => ?_) AllReadyIn.nil)
            go_simp
            refine hK _ _ ?_
            clear hK K
            refine wpAnyIn_take (i := 8) (v := ?_) rfl rfl (by kernel_rfl) (by kernel_rfl) (by kernel_rfl) (fun _ _ _ h => h) ⟨Or.inl ⟨by rfl, ?_⟩, fun _ => rfl⟩ ?_
            rotate_left
            · intro w'; go_simp; try with_reducible rfl
            go_simp
            refine wpAnyIn_take (i := 9) (v := ?_) rfl rfl (by kernel_rfl) (by kernel_rfl) (by kernel_rfl) (fun _ _ _ h => h) ⟨Or.inl ⟨by rfl, ?_⟩, fun _ => rfl⟩ ?_
            rotate_left
            · intro w'; go_simp; try with_reducible rfl
            go_simp
            refine wpAnyIn_ready (rs := [11]) (by kernel_rfl) (by simp) (AllReadyIn.cons rfl (fun K hK => ?_) AllReadyIn.nil)
            go_simp
            refine hK _ _ ?_
            clear hK K
            refine wpAnyIn_done (by kernel_rfl) ?_ _
            exact ⟨rfl, rfl⟩
        · rintro e a' W' ⟨rfl, rfl⟩
          gi_wp2
          obtain ⟨h1, h2⟩ := qe_drew (qe_end B6.out B7.out Bl.out z b)
          exact ⟨h1, rfl, by rw [HRb.out]; exact h2⟩
    · have hkl : k < q := by omega
      have hi0 : ((q : Int) - k == 0) = false := by rw [beq_eq_false_iff_ne]; omega
      have hgd0 := Hgd.out
      rw [if_neg hkq'] at hgd0
      have hbad : goodAt f rs q k = false → R = false := fun h => by rw [← HR.out]; exact goodAll_at f rs q k hkq h
      have Hbad := Lib.hid hbad
      have Hg0 := Lib.hid hgd0
      clear hbad hgd0 Hgd
      have fails : R = false → KeepsOthers W ((W.setCell ⟨w.heap.size + 3, 0, none⟩ (.int .i64 0)).setCell ⟨w.heap.size + 4, 0, none⟩ (.bool false)) ∧ QE w R ((W.setCell ⟨w.heap.size + 3, 0, none⟩ (.int .i64 0)).setCell ⟨w.heap.size + 4, 0, none⟩ (.bool false)) := fun h => by
        rw [h]; exact qe_end B6.out B7.out Bl.out 0 false
      have Fails := Lib.hid fails
      clear fails
      have goes : goodAt f rs q k = true → KeepsOthers W (W.setCell ⟨w.heap.size + 5, 0, none⟩ (.int .i64 ((q : Int) - k - 1))) ∧ QI w p s A c g e (some ⟨o2, oo2, none⟩) c2 rs q f (k + 1) (W.setCell ⟨w.heap.size + 5, 0, none⟩ (.int .i64 ((q : Int) - k - 1))) := fun h => by
        have hI := HI.out
        obtain ⟨x, hx⟩ := hI.b6
        obtain ⟨x', hx'⟩ := hI.b7
        refine ⟨KeepsOthers.setCell _ _ _, ?_, Boxed.other hI.b4 (by omega) _, Boxed.other hI.b5 (by omega) _, ⟨x, Boxed.other hx (by omega) _⟩, ⟨x', Boxed.other hx' (by omega) _⟩, ?_, Bl.out.setCell (p := ⟨w.heap.size + 5, 0, none⟩) (Nat.le_add_right _ _) _, by omega, fun j hj => ?_⟩
        · exact (Below.heap_setCell _ _ _ _ (by show w.heap.size + 6 ≠ w.heap.size + 5; omega)).trans hI.bx
        · rw [show (q : Int) - ((k + 1 : Nat) : Int) = (q : Int) - k - 1 by omega]; exact Boxed.set _ hI.b8
        · by_cases hjk : j = k
          · rw [hjk]; exact h
          · exact hI.gd j (by omega)
      have Goes := Lib.hid goes
      clear goes hkq'
      have hqk1 : (0 : Int) ≤ (q : Int) - k := by omega
      have hqk2 : (q : Int) - k < rs.length := by omega
      by_cases hz0 : z = 0
      · subst hz0
        have hR0 : R = false := Hbad.out (by rw [Hg0.out]; simp)
        obtain ⟨f1, f2⟩ := Fails.out hR0
        have F1 := Lib.hid f1
        have F2 := Lib.hid f2
        clear f1 f2 hR0 HI
        gi_wp2
        exact ⟨F1.out, rfl, F2.out⟩
      · have hz1 : (z == 0) = false := beq_eq_false_iff_ne.2 hz0
        by_cases hk0 : k = 0
        · have he1 : ((q : Int) - k == q) = true := by rw [beq_iff_eq]; omega
          have he2 : ¬ ((q : Int) - k < q) := by omega
          by_cases hyz : y < z
          · have hR0 : R = false := Hbad.out (by rw [Hg0.out, if_pos hk0]; simp; omega)
            obtain ⟨f1, f2⟩ := Fails.out hR0
            have F1 := Lib.hid f1
            have F2 := Lib.hid f2
            clear f1 f2 hR0 HI hk0
            gi_wp2
            exact ⟨F1.out, rfl, F2.out⟩
          · have hG := Goes.out (by rw [Hg0.out, if_pos hk0]; simp; omega)
            have G := Lib.hid hG
            clear hG HI hk0
            gi_wp2
            exact ⟨G.out.1, by omega, G.out.2⟩
        · have he1 : ((q : Int) - k == q) = false := by rw [beq_eq_false_iff_ne]; omega
          have he2 : ((q : Int) - k < q) := by omega
          by_cases hyz : y = z
          · have hyz1 : (y == z) = true := beq_iff_eq.2 hyz
            have hG := Goes.out (by rw [Hg0.out, if_neg hk0]; simp; omega)
            have G := Lib.hid hG
            clear hG HI hk0 hyz
            gi_wp2
            exact ⟨G.out.1, by omega, G.out.2⟩
          · have hyz1 : (y == z) = false := beq_eq_false_iff_ne.2 hyz
            have hR0 : R = false := Hbad.out (by rw [Hg0.out, if_neg hk0]; simp; omega)
            obtain ⟨f1, f2⟩ := Fails.out hR0
            have F1 := Lib.hid f1
            have F2 := Lib.hid f2
            clear f1 f2 hR0 HI hk0 hyz
            gi_wp2
            exact ⟨F1.out, rfl, F2.out⟩
  case done =>
    rintro D k W ⟨j, hj0, rfl⟩ hI hD hK
    exfalso
    have h1 := hI.gd j (by omega)
    have h2 := hI.hk
    rw [goodAt, if_neg (by omega), hj0] at h1
    simp at h1
  case stop =>
    rintro D c' k W ⟨rfl, hI⟩ hD hK
    obtain ⟨⟨x, b6⟩, b7, bl⟩ := hI
    have c6 := Boxed.cell (Boxed.turn b6 (.deferred none) hK rfl)
    have c7 := Boxed.cell (Boxed.turn b7 (.deferred none) hK rfl)
    have hwD : w.heap.size ≤ D := by omega
    clear b6 b7 h7 hs7 hf hff hR hR2 hone
    gi_wp2
    refine ⟨by simp, .inl ⟨_, _, rfl, run_takeDeferred hK, ?_⟩⟩
    exact ⟨.tuple #[.int .i64 x, .bool (goodAll f rs q)], by simp [results, Try.results40, go_sem, c6, c7], _, rfl, below_turn bl _ hK (Nat.le_refl _) hwD⟩
end Go.Proofs.Ytkdnlmnjhlogmaa
