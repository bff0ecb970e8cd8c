/- Contracts: the check of a locale, by the program and by its reference. -/
import Derived.Test.YtkdnlmnjhlogmaaE
import Derived.Deep.DeepCutAuto
import Derived.Deep.CutBlock
namespace Go.Proofs.Ytkdnlmnjhlogmaa
open Go.RowKit
set_option linter.unusedSimpArgs false
set_option linter.unusedVariables false

/-- A locale as a value. -/
abbrev Loc (p s : ByteArray) (A : Option Addr) (c : Nat) (g : List Int) (e : Int) : Value := .agg #[.string p, .string s, .slice A g.length c, .int .i64 e]
/-- A locale in a box of its own. -/
def Box (w : World) (n : Nat) (p s : ByteArray) (A : Option Addr) (c : Nat) (g : List Int) (e : Int) : Prop :=
  w.heap[n]? = some (.cells #[.string p, .string s, .slice A g.length c, .int .i64 e] 24 (0, 0))
theorem Box.cells {w : World} {n : Nat} {p s : ByteArray} {A : Option Addr} {c : Nat} {g : List Int} {e : Int} (h : Box w n p s A c g e) :
    w.cell? ⟨n, 0, none⟩ = some (.string p) ∧ w.cell? ⟨n, 1, none⟩ = some (.string s) ∧ w.cell? ⟨n, 2, none⟩ = some (.slice A g.length c) ∧ w.cell? ⟨n, 3, none⟩ = some (.int .i64 e) := by
  unfold Box at h
  simp [World.cell?, h]
theorem Box.below {w w' : World} {B n : Nat} {p s : ByteArray} {A : Option Addr} {c : Nat} {g : List Int} {e : Int} (h : Box w n p s A c g e) (hb : Below B w w') (hn : n < B) : Box w' n p s A c g e := (hb.block n hn).trans h
theorem Box.lt {w : World} {n : Nat} {p s : ByteArray} {A : Option Addr} {c : Nat} {g : List Int} {e : Int} (h : Box w n p s A c g e) : n < w.heap.size := lt_of_block h
theorem Box.new (w : World) (p s : ByteArray) (A : Option Addr) (c : Nat) (g : List Int) (e : Int) : Box (w.alloc (.cells #[.string p, .string s, .slice A g.length c, .int .i64 e] 24)) w.heap.size p s A c g e := by
  unfold Box; show (w.heap.push _)[w.heap.size]? = _; simp
theorem Box.alloc {w : World} {n : Nat} {p s : ByteArray} {A : Option Addr} {c : Nat} {g : List Int} {e : Int} (h : Box w n p s A c g e) (o : Obj) : Box (w.alloc o) n p s A c g e :=
  (Below.heap_alloc w o n h.lt).trans h
theorem Rd.below {k : IntKind} {w w' : World} {A : Option Addr} {g : List Int} (h : Rd k w A g) (hb : Below w.heap.size w w') : Rd k w' A g := fun hn => by
  obtain ⟨b, o, rfl, hc⟩ := h hn
  refine ⟨b, o, rfl, fun j x hx => ?_⟩
  have := hc j x hx
  rw [hb.cell (World.block_lt_of_cell? _ _ this)]; exact this
theorem Rd.alloc {k : IntKind} {w : World} {A : Option Addr} {g : List Int} (h : Rd k w A g) (o : Obj) : Rd k (w.alloc o) A g := h.below ((Below.refl _ _).alloc (Nat.le_refl _) o)

def apartB (p s : List UInt8) : Bool := s.isEmpty || (markB s && !pre p s && !pre s p)
def groupsB (g : List Int) : Bool := decide (g.length ≤ 8) && !g.any grpB
def okB (p s : List UInt8) (g : List Int) (e : Int) : Bool := markB p && apartB p s && groupsB g && decide (1 ≤ e ∧ e ≤ 3)
/-- What a walk over a locale in its box carries. -/
structure InBox (w0 w : World) (n : Nat) (p s : ByteArray) (A : Option Addr) (c : Nat) (g : List Int) (e : Int) : Prop where
  bx : Box w n p s A c g e
  rd : Rd .i64 w A g
  b : Below w0.heap.size w0 w
theorem InBox.step {w0 w w' : World} {n : Nat} {p s : ByteArray} {A : Option Addr} {c : Nat} {g : List Int} {e : Int} (h : InBox w0 w n p s A c g e) (hb : Below w.heap.size w w') : InBox w0 w' n p s A c g e :=
  ⟨h.bx.below hb h.bx.lt, h.rd.below hb, h.b.trans (hb.mono h.b.size)⟩
theorem InBox.new (w : World) (p s : ByteArray) (A : Option Addr) (c : Nat) (g : List Int) (e : Int) (hR : Rd .i64 w A g) : InBox w (w.alloc (.cells #[.string p, .string s, .slice A g.length c, .int .i64 e] 24)) w.heap.size p s A c g e :=
  ⟨Box.new w p s A c g e, hR.alloc _, (Below.refl _ _).alloc (Nat.le_refl _) _⟩

theorem mark_at (s : ByteArray) (w : World) (hs : s.size ≤ maxLen) (b : Bool) (h : Hid (markB (L s) = b)) : Calls Try.prog 48 #[.string s] w fun e w' => e = .returned (.bool b) ∧ Below w.heap.size w w' := by
  rw [← h.out]; exact mark_calls s w hs
theorem prefix_at (s t : ByteArray) (w : World) (hs : s.size ≤ maxLen) (ht : t.size ≤ maxLen) (b : Bool) (h : Hid (pre (L t) (L s) = b)) : Calls Try.prog 49 #[.string s, .string t] w fun e w' => e = .returned (.bool b) ∧ w = w' := by
  rw [← h.out]; exact hasPrefix s t w hs ht
theorem sizes_at (A : Option Addr) (c : Nat) (g : List Int) (w : World) (hg : g.length ≤ maxLen) (hR : Rd .i64 w A g) (b : Bool) (h : Hid (g.any grpB = b)) : Calls Try.prog 50 #[.slice A g.length c, FN 51] w fun e w' => e = .returned (.bool b) ∧ w = w' := by
  rw [← h.out]; exact contains_ints 51 grpB says_size (fun _ _ => rfl) A c g w hg hR

set_option maxHeartbeats 8000000 in
theorem check_calls (p s : ByteArray) (A : Option Addr) (c : Nat) (g : List Int) (e : Int) (w : World) (hp : p.size ≤ maxLen) (hs : s.size ≤ maxLen) (hg : g.length ≤ maxLen) (hR : Rd .i64 w A g) :
    Calls Try.prog 27 #[Loc p s A c g e] w fun r w' => r = .returned (.int .i64 (if okB (L p) (L s) g e then 0 else 1)) ∧ Below w.heap.size w w' := by
  have hI := InBox.new w p s A c g e hR
  clear hR
  obtain ⟨c0, c1, c2, c3⟩ := hI.bx.cells
  obtain ⟨ap, hap⟩ : ∃ b, apartB (L p) (L s) = b := ⟨_, rfl⟩
  obtain ⟨gb, hgb⟩ : ∃ b, groupsB g = b := ⟨_, rfl⟩
  obtain ⟨mp, hmp⟩ : ∃ b, markB (L p) = b := ⟨_, rfl⟩
  obtain ⟨ms, hms⟩ : ∃ b, markB (L s) = b := ⟨_, rfl⟩
  obtain ⟨p1, hp1⟩ : ∃ b, pre (L p) (L s) = b := ⟨_, rfl⟩
  obtain ⟨p2, hp2⟩ : ∃ b, pre (L s) (L p) = b := ⟨_, rfl⟩
  obtain ⟨ga, hga⟩ : ∃ b, g.any grpB = b := ⟨_, rfl⟩
  have hap' : (L s).isEmpty = false → ap = (ms && !p1 && !p2) := fun h => by rw [← hap, apartB, h, hms, hp1, hp2]; rfl
  have hap0 : (L s).isEmpty = true → ap = true := fun h => by rw [← hap, apartB, h]; rfl
  have hgb' : gb = (decide (g.length ≤ 8) && !ga) := by rw [← hgb, groupsB, hga]
  have hok : okB (L p) (L s) g e = (mp && ap && gb && decide (1 ≤ e ∧ e ≤ 3)) := by rw [okB, hmp, hap, hgb]
  rw [hok]
  have Hap := Lib.hid hap'
  have Hap0 := Lib.hid hap0
  have Hgb := Lib.hid hgb'
  have Hmp := Lib.hid hmp
  have Hms := Lib.hid hms
  have Hp1 := Lib.hid hp1
  have Hp2 := Lib.hid hp2
  have Hga := Lib.hid hga
  have Hp := Lib.hid hp
  have Hs := Lib.hid hs
  have Hg := Lib.hid hg
  have HI := Lib.hid hI
  clear hp hs hg hok hap hgb hmp hms hp1 hp2 hga hap' hgb' hap0 hI
  go_enter Try.func27, Try.ntmps27
  go_upto_region 1 with fail
  go_cut [3] (fun v wc => v = .bool ap ∧ Hid (InBox w wc w.heap.size p s A c g e))
  case first =>
    cases hse : (L s).isEmpty
    · have hs1 : s.toList.isEmpty = false := by rw [toList_L]; exact hse
      have hv := Hap.out hse
      have Hv := Lib.hid hv
      clear Hap Hap0 Hgb hse hv
      cases ms
      · go_wp2_with (go_at_call 48; refine (mark_at _ _ Hs.out _ Hms).mono ?_; rintro r w1 ⟨rfl, hb1⟩; have HI1 := Lib.hid (HI.out.step hb1); clear hb1)
        go_meet
        case rel => exact ⟨by rw [Hv.out]; rfl, HI1⟩
      · go_wp2_with (go_at_call 48; refine (mark_at _ _ Hs.out _ Hms).mono ?_; rintro r w1 ⟨rfl, hb1⟩; have HI1 := Lib.hid (HI.out.step hb1); clear hb1 c0 c1 c2 c3; obtain ⟨c0, c1, c2, c3⟩ := HI1.out.bx.cells)
        refine (prefix_at s p _ Hs.out Hp.out _ Hp1).mono ?_
        rintro r w2 ⟨rfl, rfl⟩
        cases p1
        · go_wp2_with fail
          refine (prefix_at p s _ Hp.out Hs.out _ Hp2).mono ?_
          rintro r w2 ⟨rfl, rfl⟩
          cases p2
          all_goals
            go_wp2_with fail
            go_meet
            case rel => exact ⟨by rw [Hv.out]; rfl, HI1⟩
        · go_wp2_with fail
          go_meet
          case rel => exact ⟨by rw [Hv.out]; rfl, HI1⟩
    · have hs1 : s.toList.isEmpty = true := by rw [toList_L]; exact hse
      have Hv := Lib.hid (Hap0.out hse)
      clear Hap Hap0 Hgb hse
      go_wp2_with fail
      go_meet
      case rel => exact ⟨by rw [Hv.out], HI⟩
  case rest =>
    clear Hap Hap0 Hms Hp1 Hp2 c0 c1 c2 c3 HI
    obtain ⟨rfl, HI⟩ := hcut
    obtain ⟨c0, c1, c2, c3⟩ := HI.out.bx.cells
    go_upto_region 2 with fail
    go_cut [4] (fun v wc => v = .bool gb ∧ Hid (InBox w wc w.heap.size p s A c g e))
    case first =>
      have hv := Hgb.out
      clear Hgb
      by_cases hl : g.length ≤ 8
      · have hl' : (g.length : Int) ≤ 8 := by omega
        rw [decide_eq_true hl] at hv
        have Hv := Lib.hid hv
        clear hv
        go_wp2_with (go_at_call 50; refine (sizes_at _ _ g _ Hg.out HI.out.rd _ Hga).mono ?_; rintro r w1 ⟨rfl, rfl⟩)
        all_goals
          go_meet
          case rel => exact ⟨by rw [Hv.out]; simp, HI⟩
      · have hl' : ¬ (g.length : Int) ≤ 8 := by omega
        rw [decide_eq_false hl] at hv
        have Hv := Lib.hid hv
        clear hv
        go_wp2_with fail
        go_meet
        case rel => exact ⟨by rw [Hv.out]; rfl, HI⟩
    case rest =>
      clear Hgb Hga c0 c1 c2 c3 HI
      obtain ⟨rfl, HI⟩ := hcut
      obtain ⟨c0, c1, c2, c3⟩ := HI.out.bx.cells
      go_wp2_with (go_at_call 48; refine (mark_at _ _ Hp.out _ Hmp).mono ?_; rintro r w1 ⟨rfl, hb1⟩; have HI1 := Lib.hid (HI.out.step hb1); clear hb1 c0 c1 c2 c3; obtain ⟨c0, c1, c2, c3⟩ := HI1.out.bx.cells; clear HI; cases mp <;> cases ap <;> cases gb)
      all_goals
        go_ret
        refine ⟨ret_int ?_, HI1.out.b⟩
        first
          | rfl
          | (simp only [Bool.true_and, Bool.false_and, Bool.and_true, Bool.and_false]
             split <;> first | rfl | (simp only [decide_eq_true_eq] at *; omega))
end Go.Proofs.Ytkdnlmnjhlogmaa
