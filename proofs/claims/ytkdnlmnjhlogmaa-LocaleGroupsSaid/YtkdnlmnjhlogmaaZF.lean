/- Room, by the program. -/
import Derived.Test.YtkdnlmnjhlogmaaZE
namespace Go.Proofs.Ytkdnlmnjhlogmaa
open Go.RowKit Go.Shelf
attribute [local go_sem] Oper.semAt_some
set_option linter.unusedSimpArgs false
set_option linter.unusedVariables false

/-- Between two rounds. -/
structure RI (w : World) (p s : ByteArray) (A : Option Addr) (c : Nat) (g : List Int) (e : Int) (f : Nat → Int) (sl bt : Int) (B2 : Nat) (k : Nat) (W : World) : Prop where
  bx : Box W w.heap.size p s A c g e
  b2 : Box W B2 p s A c g e
  b3 : Boxed W (w.heap.size + 1) 3 (.int .i64 (rst f sl bt k).2)
  b4 : Boxed W (w.heap.size + 2) 3 (.int .i64 (rst f sl bt k).1)
  b5 : Boxed W (w.heap.size + 3) 26 (.int .i64 0)
  bl : Below w.heap.size w W
  hB : w.heap.size + 3 < B2
  hs : ∀ j, j < k → rstop f sl bt j = false
/-- Where a round has returned. -/
structure RE (w : World) (r : Int) (W : World) : Prop where
  b4 : Boxed W (w.heap.size + 2) 3 (.int .i64 r)
  b5 : Boxed W (w.heap.size + 3) 26 (.int .i64 0)
  bl : Below w.heap.size w W
theorem RI.turn {w : World} {p s : ByteArray} {A : Option Addr} {c : Nat} {g : List Int} {e : Int} {f : Nat → Int} {sl bt : Int} {B2 k : Nat} {W : World} (h : RI w p s A c g e f sl bt B2 k W) {l : Nat} {o : Obj} (o' : Obj) (hl : W.heap[l]? = some o) (ho : o.isCells = false) (hle : w.heap.size ≤ l) : RI w p s A c g e f sl bt B2 k (W.putObj l o') :=
  ⟨h.bx.turn o' hl ho, h.b2.turn o' hl ho, Boxed.turn h.b3 o' hl ho, Boxed.turn h.b4 o' hl ho, Boxed.turn h.b5 o' hl ho, below_turn h.bl o' hl (Nat.le_refl _) hle, h.hB, h.hs⟩
theorem RI.alloc {w : World} {p s : ByteArray} {A : Option Addr} {c : Nat} {g : List Int} {e : Int} {f : Nat → Int} {sl bt : Int} {B2 k : Nat} {W : World} (h : RI w p s A c g e f sl bt B2 k W) (o : Obj) : RI w p s A c g e f sl bt B2 k (W.alloc o) :=
  ⟨h.bx.alloc o, h.b2.alloc o, h.b3.alloc o, h.b4.alloc o, h.b5.alloc o, h.bl.alloc h.bl.size o, h.hB, h.hs⟩
theorem RE.turn {w : World} {r : Int} {W : World} (h : RE w r W) {l : Nat} {o : Obj} (o' : Obj) (hl : W.heap[l]? = some o) (ho : o.isCells = false) (hle : w.heap.size ≤ l) : RE w r (W.putObj l o') :=
  ⟨Boxed.turn h.b4 o' hl ho, Boxed.turn h.b5 o' hl ho, below_turn h.bl o' hl (Nat.le_refl _) hle⟩
/-- The bytes set anew. -/
theorem RI.left {w : World} {p s : ByteArray} {A : Option Addr} {c : Nat} {g : List Int} {e : Int} {f : Nat → Int} {sl bt : Int} {B2 k : Nat} {W : World} (h : RI w p s A c g e f sl bt B2 k W) (v : Int) :
    Box (W.setCell ⟨w.heap.size + 1, 0, none⟩ (.int .i64 v)) w.heap.size p s A c g e ∧ Box (W.setCell ⟨w.heap.size + 1, 0, none⟩ (.int .i64 v)) B2 p s A c g e ∧ Boxed (W.setCell ⟨w.heap.size + 1, 0, none⟩ (.int .i64 v)) (w.heap.size + 1) 3 (.int .i64 v) ∧
    Boxed (W.setCell ⟨w.heap.size + 1, 0, none⟩ (.int .i64 v)) (w.heap.size + 2) 3 (.int .i64 (rst f sl bt k).1) ∧ Boxed (W.setCell ⟨w.heap.size + 1, 0, none⟩ (.int .i64 v)) (w.heap.size + 3) 26 (.int .i64 0) ∧ Below w.heap.size w (W.setCell ⟨w.heap.size + 1, 0, none⟩ (.int .i64 v)) := by
  have := h.hB
  exact ⟨(Below.heap_setCell _ _ _ _ (by show w.heap.size ≠ w.heap.size + 1; omega)).trans h.bx, (Below.heap_setCell _ _ _ _ (by show B2 ≠ w.heap.size + 1; omega)).trans h.b2, Boxed.set _ h.b3, Boxed.other h.b4 (by omega) _, Boxed.other h.b5 (by omega) _, h.bl.setCell (p := ⟨w.heap.size + 1, 0, none⟩) (Nat.le_add_right _ _) _⟩

set_option maxRecDepth 10000 in
set_option maxHeartbeats 2000000 in
theorem room_prog (p s : ByteArray) (A : Option Addr) (c : Nat) (g : List Int) (e bt : Int) (w : World) (hp : p.size ≤ maxLen) (hs : s.size ≤ maxLen) (hg : g.length ≤ maxLen) (hR : Rd .i64 w A g) (x R : Int)
    (hx : errB (okB (L p) (L s) g e) bt = x) (hRR : R = if x = 0 then roomL (sz (oneB (L s) g) g) s.size bt else 0) :
    Calls Try.prog 23 #[Loc p s A c g e, .int .i64 bt] w fun r w' => r = .returned (.tuple #[.int .i64 R, .int .i64 x]) ∧ Below w.heap.size w w' := by
  have hI := (InBox.new w p s A c g e hR)
  obtain ⟨w4, hw4⟩ : ∃ w4, (((w.alloc (.cells #[.string p, .string s, .slice A g.length c, .int .i64 e] 24)).alloc (.cells #[.int .i64 bt] 3)).alloc (.cells #[.int .i64 0] 3)).alloc (.cells #[.int .i64 0] 26) = w4 := ⟨_, rfl⟩
  have hb4 : Below (w.alloc (.cells #[.string p, .string s, .slice A g.length c, .int .i64 e] 24)).heap.size (w.alloc (.cells #[.string p, .string s, .slice A g.length c, .int .i64 e] 24)) w4 := by
    rw [← hw4]; exact (((Below.refl _ _).alloc (Nat.le_refl _) _).alloc (by simp) _).alloc (by simp) _
  have hI4 : InBox w w4 w.heap.size p s A c g e := hI.step hb4
  have nb : ∀ (W : World) (n : Nat) (t : TypeId) (v : Value), W.heap.size = n → Boxed (W.alloc (.cells #[v] t)) n t v := fun W n t v h => by subst h; exact Boxed.new W t v
  have hE4 : ECell w4 (w.heap.size + 3) 0 := by rw [← hw4]; exact nb _ _ 26 _ (by simp)
  have hB4 : Boxed w4 (w.heap.size + 1) 3 (.int .i64 bt) := by rw [← hw4]; exact ((nb _ _ 3 _ (by simp)).alloc _).alloc _
  have hN4 : Boxed w4 (w.heap.size + 2) 3 (.int .i64 0) := by rw [← hw4]; exact (nb _ _ 3 _ (by simp)).alloc _
  obtain ⟨c0, c1, c2, c3⟩ := hI4.bx.cells
  have cb := Boxed.cell hB4
  have Hy := Lib.hid hx
  have HI := Lib.hid hI4
  have HE := Lib.hid hE4
  have HB := Lib.hid hB4
  have HN := Lib.hid hN4
  have Hg := Lib.hid hg
  have HR := Lib.hid hR
  refine (callsIn_wide (n := 9)).1 ?_
  refine callsIn_of_wp_marks Try.func23 rfl trivial ?_ rfl
  simp only [Try.ntmps23, List.size_toArray, List.length_cons, List.length_nil, Nat.reduceAdd, Nat.reduceSub, Array.replicate_succ, Array.replicate_zero, List.push_toArray, List.append_toArray, List.nil_append, List.cons_append]
  by_cases hy0 : x = 0
  · rw [if_pos hy0] at hRR
    obtain ⟨hok, hn0, hn1⟩ := errB_ok (by rw [Hy.out]; exact hy0)
    obtain ⟨⟨_, hpl⟩, hsl, hgl, hgp⟩ := ok_facts hok
    rw [L_length] at hpl hsl
    have hck := check_yes p s A c g e bt w4 hp hs hg hI4.rd (by rw [Hy.out]; exact hy0)
    have Hck := Lib.hid (callsIn_wide (n := 8).2 hck)
    have hf := sz_nonneg (s := L s) (g := g) hgp
    have Hrr := Lib.hid hRR
    subst hy0
    clear hck hx hI hI4 hE4 hR hp hs hg hB4 hN4 hb4 nb hok hRR hgp
    gi_wp2_with fail
    clear hw4 c0 c1 c2 c3 cb
    refine ⟨trivial, ?_⟩
    refine Hck.out.mono ?_
    rintro r w1 ⟨rfl, hb1⟩
    have HI1 := Lib.hid (HI.out.step hb1)
    have HE1 := Lib.hid (HE.out.below hb1)
    have HN1 : Hid (Boxed w1 (w.heap.size + 2) 3 (.int .i64 0)) := Lib.hid ((hb1.block _ (lt_of_block HN.out)).trans HN.out)
    have HB1 : Hid (Boxed w1 (w.heap.size + 1) 3 (.int .i64 bt)) := Lib.hid ((hb1.block _ (lt_of_block HB.out)).trans HB.out)
    clear hb1
    obtain ⟨c0, c1, c2, c3⟩ := HI1.out.bx.cells
    gi_wp2_with (refine ⟨trivial, ?_⟩; gi_at_call 46; refine (callsIn_wide.2 (sizes_calls p s A c g e _)).mono ?_; rintro r w5 ⟨rfl, rfl⟩)
    clear c0 c1 c2 c3
    obtain ⟨f, hff⟩ : ∃ f, sz (oneB (L s) g) g = f := ⟨_, rfl⟩
    rw [hff] at hf Hrr
    have hsz1 := lt_of_block HE1.out
    obtain ⟨w5, hw5⟩ : ∃ w5, w1.alloc (.cells #[.string p, .string s, .slice A g.length c, .int .i64 e] 24) = w5 := ⟨_, rfl⟩
    have h5 : RI w p s A c g e f s.size bt w1.heap.size 0 w5 := by
      rw [← hw5]
      exact ⟨HI1.out.bx.alloc _, Box.new w1 p s A c g e, HB1.out.alloc _, HN1.out.alloc _, (show Boxed w1 (w.heap.size + 3) 26 (.int .i64 0) from HE1.out).alloc _, HI1.out.b.alloc HI1.out.b.size _, hsz1, fun j hj => absurd hj (Nat.not_lt_zero _)⟩
    have hs5 : w.heap.size ≤ w5.heap.size := h5.bl.size
    simp only [Nat.add_assoc, Nat.reduceAdd]
    rw [hw5]
    clear hw5
    refine range_seq (n := 9) (by omega) (gf := 60) (lb := #[.pointer (some ⟨w1.heap.size, 0, none⟩)]) rfl (enters_of Try.func60 (by kernel_rfl) rfl)
      (enc := fun k => #[.int .i64 (f k)]) (fun _ => rfl) (S := fun k => ∃ j, f j = 0 ∧ k = j + 1) (N := bt.toNat + 2)
      (fun k W => RI w p s A c g e f s.size bt w1.heap.size k W)
      (fun c' k W => c' = .ret ∧ RE w R W)
      (fun k W l o o' h hle hl ho => h.turn o' hl ho (by omega))
      (fun c' k W l o o' h hle hl ho => by obtain ⟨h1, h2⟩ := h; exact ⟨h1, h2.turn o' hl ho (by omega)⟩)
      ?iter (fun o => (h5.alloc _).alloc o)
      (fun k => { tmps := #[Loc p s A c g e, .int .i64 bt, .pointer (some ⟨w.heap.size, 0, none⟩), .pointer (some ⟨w.heap.size + 1, 0, none⟩), .pointer (some ⟨w.heap.size + 2, 0, none⟩), .pointer (some ⟨w.heap.size + 3, 0, none⟩), .int .i64 (f k),
        Loc p s A c g e, .int .i64 bt, .tuple #[], Loc p s A c g e, .func (.func 60) #[] #[.pointer (some ⟨w1.heap.size, 0, none⟩)], .int .i64 (f k),
        undef, undef, undef, undef, undef, undef, undef, undef, undef, undef, undef, undef, undef, undef, undef, undef, undef, undef, undef, undef, undef, undef, undef, undef, undef, undef, undef, undef, undef], defers := [] })
      ?assign ?body ?done ?stop
    case iter =>
      intro l J Jx hJ hY W h0
      have := sizes1_seq 8 (by omega) p s A c g e l w1.heap.size Hg.out (oneB (L s) g) rfl J Jx (fun k W h => ⟨(hJ k W h).b2, HR.out.below (hJ k W h).bl⟩) (bt.toNat + 2) (by unfold maxLen; omega) (by rw [hff]; exact hY) W h0 (by omega)
      refine this.mono ?_
      rintro r W' ⟨hv, ⟨k, hk, hj⟩ | h⟩
      · exact ⟨hv, .inl ⟨k + 1, ⟨k, by rw [← hff]; exact hk, rfl⟩, hj⟩⟩
      · exact ⟨hv, .inr h⟩
    case assign =>
      intro l k W K hK
      gi_wp2
      exact hK
    case body =>
      rintro l k W hI hk
      have hbnd := rst_left f hf s.size bt (by omega) hn0 k hI.hs
      obtain ⟨e1, e2, e3, e4, e5⟩ := hbnd
      have HI0 := Lib.hid hI
      have hstop : rstop f s.size bt k = true → (rst f s.size bt k).1 + max 0 (rleft f s.size bt k) = R := fun h => by rw [Hrr.out, roomL_at f hf s.size bt (by omega) hn0 k hI.hs h]
      have hgo : rstop f s.size bt k = false → ∀ j, j < k + 1 → rstop f s.size bt j = false := fun h j hj => by
        by_cases e : j = k
        · rw [e]; exact h
        · exact hI.hs j (by omega)
      have hst : rstop f s.size bt k = (decide (rleft f s.size bt k ≤ 0) || (decide (f k = 0) || decide (rleft f s.size bt k ≤ f k))) := rfl
      have hlf : rleft f s.size bt k = if 0 < (rst f s.size bt k).1 then (rst f s.size bt k).2 - s.size else (rst f s.size bt k).2 := rfl
      have hnx1 : (rst f s.size bt (k + 1)).1 = (rst f s.size bt k).1 + f k := rfl
      have hnx2 : (rst f s.size bt (k + 1)).2 = rleft f s.size bt k - f k := rfl
      obtain ⟨g1, g2, g3, g4, g5, g6⟩ := hI.left ((rst f s.size bt k).2 - s.size)
      have hB2 := hI.hB
      obtain ⟨bx, b2, b3, b4, b5, bl, _, _⟩ := hI
      obtain ⟨n, hn⟩ : ∃ n, (rst f s.size bt k).1 = n := ⟨_, rfl⟩
      obtain ⟨b, hb⟩ : ∃ b, (rst f s.size bt k).2 = b := ⟨_, rfl⟩
      obtain ⟨b', hb'⟩ : ∃ b', rleft f s.size bt k = b' := ⟨_, rfl⟩
      obtain ⟨z, hz⟩ : ∃ z, f k = z := ⟨_, rfl⟩
      have hz0 := hf k
      rw [hn] at b4 e3 e4 e5 hstop hlf hnx1 g4
      rw [hb] at b3 e1 e2 e4 hlf g1 g2 g3 g4 g5 g6
      rw [hb'] at hstop hst hlf hnx2
      rw [hz] at hst hnx1 hnx2 hz0 ⊢
      have Hn := Lib.hid hn
      have Hb := Lib.hid hb
      have Hstop := Lib.hid hstop
      have Hgo := Lib.hid hgo
      have Hst := Lib.hid hst
      have Hnx1 := Lib.hid hnx1
      have Hnx2 := Lib.hid hnx2
      obtain ⟨c0, c1, c2, c3⟩ := bx.cells
      clear hn hb hb' hz hstop hgo hst hnx1 hnx2 h5 hs5 hff
      have cb := Boxed.cell b3
      have zb := Boxed.frozen b3
      have cn := Boxed.cell b4
      have zn := Boxed.frozen b4
      have ce := Boxed.cell b5
      have ze := Boxed.frozen b5
      -- the state in the world V in which the bytes are b'
      have ends : ∀ V y, y = n + max 0 b' → Boxed V (w.heap.size + 2) 3 (.int .i64 n) → Boxed V (w.heap.size + 3) 26 (.int .i64 0) → Below w.heap.size w V → rstop f s.size bt k = true →
          KeepsOthers V ((V.setCell ⟨w.heap.size + 2, 0, none⟩ (.int .i64 y)).setCell ⟨w.heap.size + 3, 0, none⟩ (.int .i64 0)) ∧ RE w R ((V.setCell ⟨w.heap.size + 2, 0, none⟩ (.int .i64 y)).setCell ⟨w.heap.size + 3, 0, none⟩ (.int .i64 0)) := fun V y hy v4 v5 vl h => by
        rw [hy, Hstop.out h]
        exact ⟨(KeepsOthers.setCell _ _ _).trans (KeepsOthers.setCell _ _ _), Boxed.other (Boxed.set _ v4) (by omega) _, Boxed.set _ (Boxed.other v5 (by omega) _), (vl.setCell (p := ⟨w.heap.size + 2, 0, none⟩) (Nat.le_add_right _ _) _).setCell (p := ⟨w.heap.size + 3, 0, none⟩) (Nat.le_add_right _ _) _⟩
      have goes : ∀ V, Box V w.heap.size p s A c g e → Box V w1.heap.size p s A c g e → Boxed V (w.heap.size + 1) 3 (.int .i64 b') → Boxed V (w.heap.size + 2) 3 (.int .i64 n) → Boxed V (w.heap.size + 3) 26 (.int .i64 0) → Below w.heap.size w V → rstop f s.size bt k = false →
          KeepsOthers V ((V.setCell ⟨w.heap.size + 2, 0, none⟩ (.int .i64 (n + z))).setCell ⟨w.heap.size + 1, 0, none⟩ (.int .i64 (b' - z))) ∧ RI w p s A c g e f s.size bt w1.heap.size (k + 1) ((V.setCell ⟨w.heap.size + 2, 0, none⟩ (.int .i64 (n + z))).setCell ⟨w.heap.size + 1, 0, none⟩ (.int .i64 (b' - z))) := fun V v1 v2 v3 v4 v5 vl h => by
        refine ⟨(KeepsOthers.setCell _ _ _).trans (KeepsOthers.setCell _ _ _), ?_, ?_, ?_, ?_, Boxed.other (Boxed.other v5 (by omega) _) (by omega) _, (vl.setCell (p := ⟨w.heap.size + 2, 0, none⟩) (Nat.le_add_right _ _) _).setCell (p := ⟨w.heap.size + 1, 0, none⟩) (Nat.le_add_right _ _) _, hB2, Hgo.out h⟩
        · exact (Below.heap_setCell _ _ _ _ (by show w.heap.size ≠ w.heap.size + 1; omega)).trans ((Below.heap_setCell _ _ _ _ (by show w.heap.size ≠ w.heap.size + 2; omega)).trans v1)
        · exact (Below.heap_setCell _ _ _ _ (by show w1.heap.size ≠ w.heap.size + 1; omega)).trans ((Below.heap_setCell _ _ _ _ (by show w1.heap.size ≠ w.heap.size + 2; omega)).trans v2)
        · rw [Hnx2.out]; exact Boxed.set _ (Boxed.other v3 (by omega) _)
        · rw [Hnx1.out]; exact Boxed.other (Boxed.set _ v4) (by omega) _
      have Bx := Lib.hid bx
      have Bx2 := Lib.hid b2
      have B3 := Lib.hid b3
      have B4 := Lib.hid b4
      have B5 := Lib.hid b5
      have Bl := Lib.hid bl
      have E0 := Lib.hid ends
      have G0 := Lib.hid goes
      have Ga := Lib.hid g1
      have Gb := Lib.hid g2
      have Gc := Lib.hid g3
      have Gd := Lib.hid g4
      have Ge := Lib.hid g5
      have Gf := Lib.hid g6
      have Hrst : Hid (∀ v, rstop f s.size bt k = v ↔ (decide (b' ≤ 0) || (decide (z = 0) || decide (b' ≤ z))) = v) := Lib.hid (fun v => by rw [Hst.out])
      clear bx b2 b3 b4 b5 bl ends goes g1 g2 g3 g4 g5 g6 Hst hB2 HI0 hf e5
      by_cases hp : 0 < n
      · rw [if_pos hp] at hlf
        subst hlf
        by_cases h1 : b - s.size ≤ 0
        · have HS := Lib.hid (show (decide (b - (s.size : Int) ≤ 0) || (decide (z = 0) || decide (b - (s.size : Int) ≤ z))) = true by simp [h1])
          gi_wp2
          refine ⟨(KeepsOthers.setCell _ _ _).trans (E0.out _ _ ?_ Gd.out Ge.out Gf.out ((Hrst.out true).2 HS.out)).1, rfl, (E0.out _ _ ?_ Gd.out Ge.out Gf.out ((Hrst.out true).2 HS.out)).2⟩ <;> omega
        · by_cases h2 : z = 0
          · have HS := Lib.hid (show (decide (b - (s.size : Int) ≤ 0) || (decide (z = 0) || decide (b - (s.size : Int) ≤ z))) = true by simp [h2])
            have h2b : (z == 0) = true := beq_iff_eq.2 h2
            have H2 := Lib.hid h2
            clear h2
            gi_wp2
            refine ⟨(KeepsOthers.setCell _ _ _).trans (E0.out _ _ ?_ Gd.out Ge.out Gf.out ((Hrst.out true).2 HS.out)).1, rfl, (E0.out _ _ ?_ Gd.out Ge.out Gf.out ((Hrst.out true).2 HS.out)).2⟩ <;> omega
          · have h2b : (z == 0) = false := beq_eq_false_iff_ne.2 h2
            by_cases h3 : b - s.size ≤ z
            · have HS := Lib.hid (show (decide (b - (s.size : Int) ≤ 0) || (decide (z = 0) || decide (b - (s.size : Int) ≤ z))) = true by simp [h3])
              gi_wp2
              refine ⟨(KeepsOthers.setCell _ _ _).trans (E0.out _ _ ?_ Gd.out Ge.out Gf.out ((Hrst.out true).2 HS.out)).1, rfl, (E0.out _ _ ?_ Gd.out Ge.out Gf.out ((Hrst.out true).2 HS.out)).2⟩ <;> omega
            · have HS := Lib.hid (show (decide (b - (s.size : Int) ≤ 0) || (decide (z = 0) || decide (b - (s.size : Int) ≤ z))) = false by simp [h1, h2, h3])
              gi_wp2
              obtain ⟨q1, q2⟩ := G0.out _ Ga.out Gb.out Gc.out Gd.out Ge.out Gf.out ((Hrst.out false).2 HS.out)
              exact ⟨(KeepsOthers.setCell _ _ _).trans q1, by omega, q2⟩
      · rw [if_neg hp] at hlf
        subst hlf
        by_cases h1 : b' ≤ 0
        · have HS := Lib.hid (show (decide (b' ≤ 0) || (decide (z = 0) || decide (b' ≤ z))) = true by simp [h1])
          gi_wp2
          refine ⟨(E0.out _ _ ?_ B4.out B5.out Bl.out ((Hrst.out true).2 HS.out)).1, rfl, (E0.out _ _ ?_ B4.out B5.out Bl.out ((Hrst.out true).2 HS.out)).2⟩ <;> omega
        · by_cases h2 : z = 0
          · have HS := Lib.hid (show (decide (b' ≤ 0) || (decide (z = 0) || decide (b' ≤ z))) = true by simp [h2])
            have h2b : (z == 0) = true := beq_iff_eq.2 h2
            have H2 := Lib.hid h2
            clear h2
            gi_wp2
            refine ⟨(E0.out _ _ ?_ B4.out B5.out Bl.out ((Hrst.out true).2 HS.out)).1, rfl, (E0.out _ _ ?_ B4.out B5.out Bl.out ((Hrst.out true).2 HS.out)).2⟩ <;> omega
          · have h2b : (z == 0) = false := beq_eq_false_iff_ne.2 h2
            by_cases h3 : b' ≤ z
            · have HS := Lib.hid (show (decide (b' ≤ 0) || (decide (z = 0) || decide (b' ≤ z))) = true by simp [h3])
              gi_wp2
              refine ⟨(E0.out _ _ ?_ B4.out B5.out Bl.out ((Hrst.out true).2 HS.out)).1, rfl, (E0.out _ _ ?_ B4.out B5.out Bl.out ((Hrst.out true).2 HS.out)).2⟩ <;> omega
            · have HS := Lib.hid (show (decide (b' ≤ 0) || (decide (z = 0) || decide (b' ≤ z))) = false by simp [h1, h2, h3])
              gi_wp2
              obtain ⟨q1, q2⟩ := G0.out _ Bx.out Bx2.out B3.out B4.out B5.out Bl.out ((Hrst.out false).2 HS.out)
              exact ⟨q1, by omega, q2⟩
    case done =>
      rintro D k W ⟨j, hj0, rfl⟩ hI hD hK
      exfalso
      have h1 := hI.hs j (by omega)
      rw [rstop, hj0] at h1
      simp at h1
    case stop =>
      rintro D c' k W ⟨rfl, hI⟩ hD hK
      have hI2 := hI.turn (.deferred none) hK rfl (by omega)
      obtain ⟨b4, b5, bl⟩ := hI2
      have Hk := Lib.hid hK
      have B4 := Lib.hid b4
      have B5 := Lib.hid b5
      have Bl := Lib.hid bl
      clear hI b4 b5 bl h5 hs5 hf hff
      gi_wp2
      refine ⟨by simp, .inl ⟨_, _, rfl, run_takeDeferred hK, ?_⟩⟩
      refine ⟨by simp, .inr ⟨fun _ => by omega, _, _, 29, #[.pointer (some ⟨w.heap.size + 3, 0, none⟩)], rfl, by simp [go_sem], fun _ _ => trivial, ?_⟩⟩
      refine (caught_idleIn _ _ _).mono ?_
      rintro r u' w'' ⟨rfl, rfl, rfl⟩
      have c4 := Boxed.cell B4.out
      have c5 := Boxed.cell B5.out
      exact ⟨.tuple #[.int .i64 R, .int .i64 0], by simp [results, Try.results23, go_sem, c4, c5], rfl, Bl.out⟩
  · rw [if_neg hy0] at hRR
    subst hRR
    have hck := check_no p s A c g e bt x w4 hp hs hg hI4.rd Hy.out hy0
    have Hck := Lib.hid (callsIn_wide (n := 8).2 hck)
    clear hck hy0 hx hI hI4 hE4 hR hp hs hg hB4 hN4 hb4 nb
    gi_wp2_with fail
    clear hw4 c0 c1 c2 c3 cb
    refine ⟨trivial, ?_⟩
    refine Hck.out.mono ?_
    rintro r w1 ⟨rfl, hb1⟩
    have hE1 := HE.out.below hb1
    have hN1 : Boxed w1 (w.heap.size + 2) 3 (.int .i64 0) := (hb1.block _ (lt_of_block HN.out)).trans HN.out
    have hn := Boxed.cell (Boxed.other hN1 (show w.heap.size + 2 ≠ w.heap.size + 3 by omega) (.int .i64 x))
    refine ⟨by simp, .inr ⟨fun _ => by omega, _, _, 29, #[.pointer (some ⟨w.heap.size + 3, 0, none⟩)], rfl, by simp [go_sem], fun _ _ => trivial, ?_⟩⟩
    refine (caught_failIn _ (w.heap.size + 3) x 0 _ hE1).mono ?_
    rintro r u' w'' ⟨rfl, rfl, rfl⟩
    have hc := hE1.setA x (.cells #[.int .i64 x] 71)
    have hn' : ((w1.setCell ⟨w.heap.size + 3, 0, none⟩ (.int .i64 x)).alloc (.cells #[.int .i64 x] 71)).cell? ⟨w.heap.size + 2, 0, none⟩ = some (.int .i64 0) := by
      rw [World.cell?_alloc_past (hn := by rw [World.size_setCell]; exact lt_of_block hN1)]; exact hn
    exact ⟨.tuple #[.int .i64 0, .int .i64 x], by simp [results, Try.results23, go_sem, hc, hn'], rfl, below_setA (HI.out.b.trans (hb1.mono HI.out.b.size)) (Nat.le_add_right _ _) _ _⟩
end Go.Proofs.Ytkdnlmnjhlogmaa
