/- Package nat, its reference and its laws' helpers, part 11 (NCR NCS NCT NCU NCV NCW NCX). -/
import Derived.Lib.FrozenHead
import Derived.Test.YtfcfejlffmddnaaGreatDoorM10
section
/- Contracts: a Builder's WriteString, what lies beside it. -/
namespace Go.Proofs.YtfcfejlffmddnaaGreatDoor
open Go.RowKit Go.Shelf
set_option linter.unusedSimpArgs false
set_option linter.unusedVariables false

/-- A builder in block b that holds the bytes l; what it has written lies in rows of bytes from B on. -/
def Bld (B b : Nat) (l : List UInt8) (w : World) : Prop :=
  ∃ p v, w.heap[b]? = some (.cells #[p, v] 101 (0, 0)) ∧ (p = .pointer none ∨ p = .pointer (some ⟨b, 0, none⟩)) ∧ w.ownsRow B 5 1 v l.length (Lib.byteCells l) ∧ v.ownBlock ≠ some b ∧ Row8 w v
/-- Between two worlds: blocks below B, and rows of cells that are not bytes alone, are as they were, but for block b. -/
structure Kp (B b : Nat) (w w' : World) : Prop where
  os : w'.os = w.os
  tape : w'.tape = w.tape
  output : w'.output = w.output
  size : w.heap.size ≤ w'.heap.size
  low : ∀ k, k < B → k ≠ b → w'.heap[k]? = w.heap[k]?
  high : ∀ k cs T fr, w.heap[k]? = some (.cells cs T fr) → k ≠ b → ¬ U8s cs → w'.heap[k]? = some (.cells cs T fr)
theorem Kp.refl (B b : Nat) (w : World) : Kp B b w w := ⟨rfl, rfl, rfl, Nat.le_refl _, fun _ _ _ => rfl, fun _ _ _ _ h _ _ => h⟩
theorem Kp.trans {B b : Nat} {x y z : World} (h : Kp B b x y) (k : Kp B b y z) : Kp B b x z :=
  ⟨k.os.trans h.os, k.tape.trans h.tape, k.output.trans h.output, Nat.le_trans h.size k.size, fun i hi hb => (k.low i hi hb).trans (h.low i hi hb), fun i cs T fr hc hb h8 => k.high i cs T fr (h.high i cs T fr hc hb h8) hb h8⟩
theorem Kp.of_below {B b : Nat} {w w' : World} (h : Below w.heap.size w w') (hB : B ≤ w.heap.size) : Kp B b w w' :=
  ⟨h.os, h.tape, h.output, h.size, fun k hk _ => h.block k (by omega), fun k cs T fr hc _ _ => (h.block k (lt_of_block hc)).trans hc⟩
theorem Kp.below {B b B' : Nat} {w w' : World} (h : Kp B b w w') (h1 : B' ≤ B) (h2 : B' ≤ b) : Below B' w w' :=
  ⟨h.os, h.tape, h.output, h.size, fun k hk => h.low k (by omega) (by omega)⟩
theorem Kp.rd {B b : Nat} {w w' : World} (h : Kp B b w w') {A : Option Addr} {g : List Int} (hR : Rd .u32 w A g) {p v : Value} {T : TypeId} (hb : w.heap[b]? = some (.cells #[p, v] T (0, 0))) (hp : ∀ n, p ≠ .int .u32 n) (hv : ∀ n, v ≠ .int .u32 n) : Rd .u32 w' A g := by
  intro hne
  obtain ⟨k, o, rfl, hc⟩ := hR hne
  refine ⟨k, o, rfl, fun j x hx => ?_⟩
  have hcc := hc j x hx
  have hkb : k ≠ b := by
    intro e
    subst e
    simp only [World.cell?, hb] at hcc
    match q : o + j with
    | 0 => rw [q] at hcc; simp at hcc; exact hp x hcc
    | 1 => rw [q] at hcc; simp at hcc; exact hv x hcc
    | n + 2 => rw [q] at hcc; simp at hcc
  have hh : ∃ cs T fr, w.heap[k]? = some (.cells cs T fr) ∧ cs[o + j]? = some (.int .u32 x) := by
    unfold World.cell? at hcc
    cases ho : w.heap[k]? with
    | none => simp [ho] at hcc
    | some ob =>
      cases ob with
      | cells cs T fr => exact ⟨cs, T, fr, rfl, by simpa [ho] using hcc⟩
      | _ => simp [ho] at hcc
  obtain ⟨cs, T', fr, hk, hcs⟩ := hh
  have h8 : ¬ U8s cs := fun h8 => by
    obtain ⟨n, hn⟩ := h8 _ (by rw [← Array.getElem?_toList] at hcs; exact List.mem_of_getElem? hcs)
    cases hn
  have := h.high k cs T' fr hk hkb h8
  rw [← hcc]
  exact World.cell?_of_block (this.trans hk.symm)
theorem Kp.box {B b : Nat} {w w' : World} (h : Kp B b w w') {k : Nat} {T : TypeId} {v : Value} (hk : Boxed w k T v) (hb : k ≠ b) (hv : ∀ n, v ≠ .int .u8 n) : Boxed w' k T v :=
  h.high k #[v] T (0, 0) hk hb (fun h8 => by
    obtain ⟨n, hn⟩ := h8 v (by simp)
    exact hv n hn)
theorem Bld.lt {B b : Nat} {l : List UInt8} {w : World} (h : Bld B b l w) : b < w.heap.size := by
  obtain ⟨p, v, hb, _⟩ := h; exact lt_of_block hb
theorem row_weaken {w : World} {B B' : Nat} {e : TypeId} {size : Nat} {v : Value} {k : Nat} {xs : List Value} (h : w.ownsRow B e size v k xs) (hle : B' ≤ B) : w.ownsRow B' e size v k xs := by
  refine ⟨h.1, ?_⟩
  rcases h.2 with h2 | ⟨g, cap, cur, hv, hg, r⟩
  · exact .inl h2
  · exact .inr ⟨g, cap, cur, hv, Nat.le_trans hle hg, r⟩
theorem Bld.is {B b B' : Nat} {l : List UInt8} {w : World} (h : Bld B b l w) (h1 : B' ≤ B) (h2 : B' ≤ b) : Lib.IsBuilder 101 5 B' b (Lib.byteCells l) w := by
  obtain ⟨p, v, hb, hp, hr, hne, _⟩ := h
  have hr' : w.ownsRow B' 5 1 v (Lib.byteCells l).length (Lib.byteCells l) := by rw [Lib.byteCells_length]; exact row_weaken hr h1
  rcases hp with rfl | rfl
  · exact .inl ⟨h2, v, hb, hr', hne⟩
  · exact .inr ⟨h2, v, hb, hr', hne⟩
theorem Bld.isF {B b B' : Nat} {l : List UInt8} {w : World} (h : Bld B b l w) (h1 : B' ≤ B) (h2 : B' ≤ b) : Lib.IsBuilderF 101 5 B' b (Lib.byteCells l) w := by
  rcases h.is h1 h2 with h | h
  · exact .inl (Lib.BuilderAtF.of h)
  · exact .inr (Lib.BuilderAtF.of h)
theorem Bld.new (w : World) (B : Nat) : Bld B w.heap.size [] (w.alloc (.cells #[.pointer none, .slice none 0 0] 101)) :=
  ⟨_, _, World.alloc_heap_new w _, .inl rfl, World.ownsRow_nil _ _ _ _, by simp [Value.ownBlock], fun b cs T fr h => by simp [Value.ownBlock] at h⟩
theorem own_lt {w : World} {B : Nat} {e : TypeId} {v : Value} {n : Nat} {xs : List Value} (h : w.ownsRow B e 1 v n xs) {b : Nat} (hb : v.ownBlock = some b) : b < w.heap.size ∧ B ≤ b := by
  rcases h.2 with ⟨rfl, _⟩ | ⟨g, cap, cur, rfl, hBg, hg, _⟩
  · simp [Value.ownBlock] at hb
  · simp only [Value.ownBlock, Option.some.injEq] at hb
    subst hb
    exact ⟨lt_of_block hg, hBg⟩
theorem Bld.below {B b : Nat} {l : List UInt8} {w w' : World} (h : Bld B b l w) (hb : Below w.heap.size w w') : Bld B b l w' := by
  obtain ⟨p, v, hbk, hp, hr, hne, h8⟩ := h
  refine ⟨p, v, (hb.block _ (lt_of_block hbk)).trans hbk, hp, ⟨hr.1, ?_⟩, hne, fun k cs T fr hk hh => ?_⟩
  · rcases hr.2 with h2 | ⟨g, cap, cur, hv, hg, hgb, r⟩
    · exact .inl h2
    · exact .inr ⟨g, cap, cur, hv, hg, (hb.block _ (lt_of_block hgb)).trans hgb, r⟩
  · exact h8 k cs T fr hk ((hb.block _ (own_lt hr hk).1).symm.trans hh)
theorem strCells_eq (s : ByteArray) : Lib.strCells s = Lib.byteCells (L s) := by
  simp only [Lib.strCells, Lib.byteCells, L]
theorem byteCells_append (a b : List UInt8) : Lib.byteCells (a ++ b) = Lib.byteCells a ++ Lib.byteCells b := by simp [Lib.byteCells]
theorem u8s_bytes (l : List UInt8) : ∀ y ∈ Lib.byteCells l, ∃ n, y = .int .u8 n := by
  intro y hy
  simp only [Lib.byteCells, List.mem_map] at hy
  obtain ⟨x, _, rfl⟩ := hy
  exact ⟨_, rfl⟩
theorem Row8.set {w : World} {v : Value} (h : Row8 w v) {b i : Nat} (u : Value) (hne : v.ownBlock ≠ some b) : Row8 (w.setCell ⟨b, i, none⟩ u) v := fun k cs T fr hk hh => by
  refine h k cs T fr hk ?_
  rwa [Below.heap_setCell _ _ _ _ (fun e => hne (by rw [hk, e]))] at hh

set_option maxHeartbeats 2000000 in
set_option maxRecDepth 100000 in
theorem writeString_calls (B b : Nat) (l : List UInt8) (s : ByteArray) (w : World) (h : Bld B b l w) (hlen : l.length + s.size ≤ 140737488355328) (hBw : B ≤ w.heap.size) :
    Calls Tryz.prog 86 #[.pointer (some ⟨b, 0, none⟩), .string s] w fun e w' => e = .returned (.tuple #[.int .i64 s.size, .nilIface]) ∧ Bld B b (l ++ L s) w' ∧ Kp B b w w' ∧ KeepsOthers w w' := by
  obtain ⟨i0, hi, hz0, hz1, hz2⟩ := info_parts info5
  have hck : Calls Tryz.prog 124 #[.pointer (some ⟨b, 0, none⟩)] w fun e w' => e = .returned (.tuple #[]) ∧ ∃ v, w'.heap[b]? = some (.cells #[.pointer (some ⟨b, 0, none⟩), v] 101 (0, 0)) ∧ w'.ownsRow B 5 1 v l.length (Lib.byteCells l) ∧ v.ownBlock ≠ some b ∧ Row8 w' v ∧ Kp B b w w' ∧ KeepsOthers w w' := by
    obtain ⟨p, v, hb, hp, hr, hne, h8⟩ := h
    rcases hp with rfl | rfl
    · refine (copyCheck_fresh b w (by rw [Lib.cell_of_heap hb]; rfl) (by simp [World.shape?, hb]) (Lib.frozen_of_heap hb 0)).mono ?_
      rintro e w' ⟨rfl, rfl⟩
      refine ⟨rfl, v, by simp [World.setCell, Array.getElem?_modify, hb], hr.kept (row := some b) ⟨rfl, rfl, rfl, by simp [World.setCell], fun k _ hk => Below.heap_setCell _ _ _ _ (fun e => hk (by simp [e]))⟩ (.inr hne), hne, h8.set _ hne, ⟨rfl, rfl, rfl, by simp, fun k _ hk => Below.heap_setCell _ _ _ _ hk, fun k cs T fr hc hk _ => (Below.heap_setCell _ _ _ _ hk).trans hc⟩, KeepsOthers.setCell _ _ _⟩
    · refine (copyCheck_used b w (by rw [Lib.cell_of_heap hb]; rfl)).mono ?_
      rintro e w' ⟨rfl, rfl⟩
      exact ⟨rfl, v, hb, hr, hne, h8, Kp.refl _ _ _, KeepsOthers.refl _⟩
  have Hck := Lib.hid hck
  clear hck h
  go_enter Tryz.func86, Tryz.ntmps86
  go_wp2_with (go_at_call 124; refine Hck.out.mono ?_)
  rintro e w1 ⟨rfl, v, hbk, hown, hne, h8, hb1, ho1⟩
  have c0 : w1.cell? ⟨b, 0, none⟩ = some (.pointer (some ⟨b, 0, none⟩)) := by rw [Lib.cell_of_heap hbk]; rfl
  have c1 : w1.cell? ⟨b, 1, none⟩ = some v := by rw [Lib.cell_of_heap hbk]; rfl
  have hs1 := hb1.size
  have Hb1 := Lib.hid hb1
  have H8 := Lib.hid h8
  have HO1 := Lib.hid ho1
  clear hb1 h8 ho1
  go_wp2_with (at_builtin; refine wpList_append8 rfl _ _ 60 9 rfl B 5 i0 Tryz.underlying60 Tryz.underlying9 hi hz0 hz1 hz2 _ _ _ rfl hown s rfl ?c3 ?c4 ?c5 H8.out (u8s_bytes l) ?_)
  case c3 => unfold maxLen; omega
  case c4 => omega
  case c5 => omega
  intro v' w2 hown' hgrow h8'
  have hlt : b < w1.heap.size := lt_of_block hbk
  have hb2 : w2.heap[b]? = some (.cells #[.pointer (some ⟨b, 0, none⟩), v] 101 (0, 0)) := by
    rw [hgrow.block b hlt (fun e => hne e.symm)]
    exact hbk
  have d0 : w2.cell? ⟨b, 0, none⟩ = some (.pointer (some ⟨b, 0, none⟩)) := by rw [Lib.cell_of_heap hb2]; rfl
  have d1 : w2.cell? ⟨b, 1, none⟩ = some v := by rw [Lib.cell_of_heap hb2]; rfl
  have f1 : w2.frozen? ⟨b, 1, none⟩ = false := Lib.frozen_of_heap hb2 1
  obtain ⟨ao, n', cap, rfl⟩ : ∃ ao n' cap, v' = .slice ao n' cap := by
    rcases hown'.2 with ⟨hv, _⟩ | ⟨g, cap, cur, hv, _⟩
    · exact ⟨_, _, _, hv⟩
    · exact ⟨_, _, _, hv⟩
  go_wp2
  go_ret2
  have hown2 : w2.ownsRow B 5 1 (.slice ao n' cap) (l ++ L s).length (Lib.byteCells (l ++ L s)) := by
    rw [byteCells_append, List.length_append, L_length, ← strCells_eq]; exact hown'
  have hne2 := Lib.ownBlock_ne hown2 hb2 (show (101 : TypeId) ≠ 5 by decide)
  have hko : KeepsOthers w1 w2 := KeepsOthers.of_grownBy hgrow (fun j o hj ho => by
    rcases hown.2 with ⟨rfl, _⟩ | ⟨g, cap, cur, rfl, hBg, hg, _⟩
    · simp [Value.ownBlock] at hj
    · simp only [Value.ownBlock, Option.some.injEq] at hj
      subst hj
      rw [hg] at ho
      injection ho with ho
      rw [← ho]; rfl)
  refine ⟨rfl, ⟨_, _, ?_, .inr rfl, ?_, hne2, h8'.set _ hne2⟩, Hb1.out.trans ⟨?_, ?_, ?_, ?_, fun k hk hkb => ?_, fun k cs T fr hc hkb hn8 => ?_⟩, HO1.out.trans (hko.trans (KeepsOthers.setCell _ _ _))⟩
  · simp [World.setCell, Array.getElem?_modify, hb2]
  · exact hown2.kept (row := some b) ⟨rfl, rfl, rfl, by simp [World.setCell], fun k _ hk => Below.heap_setCell _ _ _ _ (fun e => hk (by simp [e]))⟩ (.inr hne2)
  · exact hgrow.os
  · exact hgrow.tape
  · exact hgrow.output
  · have := hgrow.size; simpa using this
  · rw [Below.heap_setCell _ _ _ _ hkb]
    exact hgrow.block k (by omega) (fun e => by have := (own_lt hown e.symm).2; omega)
  · rw [Below.heap_setCell _ _ _ _ hkb, hgrow.block k (lt_of_block hc) (fun e => hn8 (H8.out k cs T fr e.symm hc))]
    exact hc
end Go.Proofs.YtfcfejlffmddnaaGreatDoor
end
section
/- A range over an iterator that makes memory between the rounds: the rounds all go on, and keep what is not bytes. -/
namespace Go.Proofs.YtfcfejlffmddnaaGreatDoor
open Go.RowKit Go.Shelf
set_option linter.unusedSimpArgs false
set_option linter.unusedVariables false

/-- The iterator's word: it hands on enc 0, enc 1, .., enc (N - 1); its own steps leave what was there alone; each round keeps what is not bytes. -/
def YieldsK (P : Program) (gf : Nat) (lb : Array Value) (enc : Nat → Array Value) (B b : Nat) (I : Nat → World → Prop) (N : Nat) : Prop :=
  ∀ (n l : Nat) (J : Nat → World → Prop), (∀ k W, J k W → I k W) → (∀ k W W', J k W → Below W.heap.size W W' → J k W') →
    (∀ m k W1, J k W1 → k < N → YieldAt Fence.wide m P l (enc k) W1 fun r W' => r = .returned (.bool true) ∧ Kp B b W1 W' ∧ J (k + 1) W') →
    ∀ W, J 0 W → CallsIn Fence.wide n P gf (#[.func (.yield l) #[] #[]] ++ lb) W fun r W' => (∃ v, r = .returned v) ∧ J N W'

theorem RoundIn.any {m m' : Nat} {P : Program} {l : Nat} {f : FuncId} {tmps : Array Value} {assign body : Code} {w : World} {R : Ending → World → Prop}
    (h : RoundIn Fence.wide m P l f tmps assign body w R) : RoundIn Fence.wide m' P l f tmps assign body w R := ⟨h.1, fun c cs _ => h.2 c cs (room_wide _)⟩
theorem YieldAt.any {m : Nat} (m' : Nat) {P : Program} {l : Nat} {args : Array Value} {W : World} {R : Ending → World → Prop} (h : YieldAt Fence.wide m P l args W R) : YieldAt Fence.wide m' P l args W R := by
  obtain ⟨fn, tmps, assign, body, hy, hR⟩ := h
  exact ⟨fn, tmps, assign, body, hy, RoundIn.any hR⟩
/-- How a round is left. -/
def roundOn (B b : Nat) (I : Nat → World → Prop) (k : Nat) (W : World) : Exit → Act → World → Prop
  | .normal, _, W' => KeepsOthers W W' ∧ Kp B b W W' ∧ I (k + 1) W'
  | .ret, _, _ => False
  | .exit _, _, _ => False
  | .goto _, _, _ => False
  | .panic _, _, _ => False
  | .outgrown, _, _ => False
theorem Kp.turnL {B b : Nat} {W W' : World} {l : Nat} {o o' : Obj} (hl : W.heap[l]? = some o) (ho : o.isCells = false) (hB : B ≤ l) (h : Kp B b (W.putObj l o') W') : Kp B b W W' := by
  have hlt : l < W.heap.size := (Array.getElem?_eq_some_iff.1 hl).1
  refine ⟨h.os, h.tape, h.output, Nat.le_trans (grownBy_putObj' W l o').size h.size, fun k hk hb => ?_, fun k cs T fr hc hb h8 => ?_⟩
  · rw [h.low k hk hb, World.putObj_heap_other (by omega)]
  · have hne : k ≠ l := fun e => by subst e; rw [hl] at hc; cases hc; cases ho
    exact h.high k cs T fr ((World.putObj_heap_other hne).trans hc) hb h8
theorem Kp.turnR {B b : Nat} {W W' : World} {l : Nat} {o o' : Obj} (hl : W'.heap[l]? = some o) (ho : o.isCells = false) (hB : B ≤ l) (h : Kp B b W W') : Kp B b W (W'.putObj l o') := by
  refine ⟨h.os, h.tape, h.output, Nat.le_trans h.size (grownBy_putObj' W' l o').size, fun k hk hb => ?_, fun k cs T fr hc hb h8 => ?_⟩
  · rw [World.putObj_heap_other (by omega), h.low k hk hb]
  · have h1 := h.high k cs T fr hc hb h8
    have hne : k ≠ l := fun e => by subst e; rw [hl] at h1; cases h1; cases ho
    exact (World.putObj_heap_other hne).trans h1

theorem range_seqK {P : Program} {n : Nat} {g : Operand} {ps : Array Tmp} {assign body : Code} {Q : Exit → Act → World → Prop} {a : Act} {w : World}
    (hn : 1 ≤ n) {gf : Nat} {lb : Array Value} (hg : a.eval g = .func (.func gf) #[] lb) (eg : ∀ args w, (callFunc gf args).run P w = .ok (.enter gf args) w)
    {enc : Nat → Array Value} (hps : ∀ k, (enc k).size = ps.size) {N B b : Nat} (hB : B ≤ w.heap.size)
    (I : Nat → World → Prop) (hI : ∀ k, Turns w.heap.size (I k)) (hIb : ∀ k W W', I k W → Below W.heap.size W W' → I k W')
    (hit : YieldsK P gf lb enc B b I N) (h0 : ∀ o, I 0 ((w.alloc (.deferred (some []))).alloc o)) (a₁ : Nat → Act)
    (hassign : ∀ (l k : Nat) (W : World) (K : Act → World → Prop), K (a₁ k) W →
      assign.wpIn (Fence.wide.inRound l) (n - 1 - 1) P (Exit.then K (fun _ _ _ => False)) { tmps := (ps.zip (enc k)).foldl (fun t (p, v) => t.setIfInBounds p v) a.tmps, defers := [] } W)
    (hbody : ∀ (l k : Nat) (W : World), I k W → k < N → body.wpIn (Fence.wide.inRound l) (n - 1 - 1) P (roundOn B b I k W) (a₁ k) W)
    (hdone : ∀ (D : Nat) (W : World), I N W → w.heap.size ≤ D → W.heap[D]? = some (.deferred (some [])) → Q .normal { a with defers := { target := .collected D, args := #[] } :: a.defers } W) :
    (Code.rangeFunc g ps assign body).wpIn Fence.wide n P Q a w := by
  refine wpIn_rangeFunc fun fn hfn => ?_
  generalize hD : w.heap.size = D at *
  let rec0 : LoopState → Option Code → Loop := fun st pe => { state := st, pending := pe, fn, tmps := a.tmps, params := ps, assign, body, defers := D }
  have r1 : ∀ st pe, ({ rec0 .ready none with state := st, pending := pe } : Loop) = rec0 st pe := fun _ _ => rfl
  generalize hr : rec0 = rc at r1
  obtain ⟨W1, hW1⟩ : ∃ W1, (w.alloc (.deferred (some []))).alloc (.loop (rc .ready none)) = W1 := ⟨_, rfl⟩
  have hL1 : W1.heap[D + 1]? = some (.loop (rc .ready none)) := by
    rw [← hW1, ← hD]; have := World.alloc_heap_new (w.alloc (.deferred (some []))) (.loop (rc .ready none)); rwa [World.size_alloc] at this
  have hK1 : W1.heap[D]? = some (.deferred (some [])) := by
    rw [← hW1, ← hD]; exact (Below.heap_alloc _ _ _ (by simp)).trans (World.alloc_heap_new w _)
  refine ⟨D + 1, [{ target := .collected D, args := #[] }], W1, { target := .fn (.func gf) lb, args := #[.func (.yield (D + 1)) #[] #[]] }, W1, gf,
    #[.func (.yield (D + 1)) #[] #[]] ++ lb, W1, ?_, ?_, fun _ _ => trivial, ?_, fun _ => hn, ?_⟩
  · subst hr; subst hD; rw [← hW1]; exact run_enterLoop_outer _ _ _ _ _
  · simp only [resolve, hg]
    simp [go_sem]
  · simp [invoke, go_sem, eg]
  · let Bk : LoopState → Option Code → World → Prop := fun st pe W => W.heap[D + 1]? = some (.loop (rc st pe)) ∧ W.heap[D]? = some (.deferred (some []))
    have hps' : ∀ k, (enc k).size = (rc .ready none).params.size := fun k => by rw [← hr]; exact hps k
    have hst : ∀ st pe, (rc st pe).state = st := fun st pe => by rw [← hr]
    have hpe : ∀ st pe, (rc st pe).pending = pe := fun st pe => by rw [← hr]
    refine (hit (n - 1) (D + 1) (fun k W => I k W ∧ Bk .ready none W) (fun k W h => h.1) (fun k W W' h hb => ⟨hIb k W W' h.1 hb, (hb.block _ (Array.getElem?_eq_some_iff.1 h.2.1).1).trans h.2.1, (hb.block _ (Array.getElem?_eq_some_iff.1 h.2.2).1).trans h.2.2⟩) ?_ W1 ⟨by rw [← hW1]; exact h0 _, hL1, hK1⟩).mono ?_
    · rintro m k W ⟨hi, hl, hk⟩ hlt
      refine YieldAt.any (m := n - 1 - 1) m ?_
      have hy := run_yield (P := P) (args := enc k) hl (hps' k)
      have hbusy : (Instr.beginRound (D + 1)).run P W = .ok () (W.putObj (D + 1) (.loop (rc .busy none))) := by
        have := run_beginRound (P := P) hl (hst _ _)
        rw [this]; subst hr; rfl
      subst hr
      refine ⟨fn, _, assign, body, hy, roundIn_of_wpIn hfn (hassign _ k W _ ⟨_, hbusy, ?_⟩)⟩
      have hsz : D + 1 < W.heap.size := (Array.getElem?_eq_some_iff.1 hl).1
      have hl2 : (W.putObj (D + 1) (.loop (rec0 .busy none))).heap[D + 1]? = some (.loop (rec0 .busy none)) := World.putObj_heap_same hsz
      have hk2 : (W.putObj (D + 1) (.loop (rec0 .busy none))).heap[D]? = some (.deferred (some [])) := (World.putObj_heap_other (by omega)).trans hk
      refine wpIn_mono (hbody _ k _ (hI k _ _ _ _ hi (by omega) hl rfl) hlt) ?_
      rintro e a3 W3 hp
      cases e with
      | normal =>
        obtain ⟨hk3, hkp, hi3⟩ := hp
        have hl3 := hk3.same _ _ hl2 rfl
        refine ⟨_, _, run_endRound (P := P) none hl3, rfl, ?_, hI _ _ _ _ _ hi3 (by omega) hl3 rfl, World.putObj_heap_same (Array.getElem?_eq_some_iff.1 hl3).1, (World.putObj_heap_other (by omega)).trans (hk3.same _ _ hk2 rfl)⟩
        exact (Kp.turnL hl rfl (by omega) hkp).turnR hl3 rfl (by omega)
      | ret => exact hp.elim
      | exit id => exact hp.elim
      | goto t => exact hp.elim
      | panic ch => exact hp.elim
      | outgrown => exact hp.elim
    · rintro r W2 ⟨⟨v, rfl⟩, hi, hl, hk⟩
      have he := run_endLoop (P := P) hl (by rw [hst]; simp)
      rw [hpe] at he
      exact ⟨none, _, he, hdone D _ (hI _ _ _ _ _ hi (by omega) hl rfl) (by omega) ((World.putObj_heap_other (by omega)).trans hk)⟩
end Go.Proofs.YtfcfejlffmddnaaGreatDoor
end
section
/- Plain: decimal digits. -/
namespace Go.Proofs.YtfcfejlffmddnaaGreatDoor
open Go.RowKit Go.Shelf
set_option linter.unusedSimpArgs false
set_option linter.unusedVariables false

/-- The last k decimal digits of a number. -/
def pad : Nat → Nat → List UInt8
  | 0, _ => []
  | k + 1, n => pad k (n / 10) ++ [UInt8.ofNat (48 + n % 10)]
theorem pad_length (k n : Nat) : (pad k n).length = k := by
  induction k generalizing n with
  | zero => rfl
  | succ k ih => rw [pad, List.length_append, ih]; rfl
theorem pad_split (k j n : Nat) : pad (k + j) n = pad k (n / 10 ^ j) ++ pad j n := by
  induction j generalizing n with
  | zero => simp [pad]
  | succ j ih =>
    rw [show k + (j + 1) = (k + j) + 1 from rfl, pad, ih, pad, List.append_assoc, Nat.div_div_eq_div_mul, Nat.pow_succ, Nat.mul_comm 10]
theorem pad_mod (k n : Nat) : pad k (n % 10 ^ k) = pad k n := by
  induction k generalizing n with
  | zero => rfl
  | succ k ih =>
    rw [pad, pad]
    congr 1
    · rw [Nat.pow_succ, Nat.mul_comm, Nat.mod_mul_right_div_self, ih]
    · rw [Nat.pow_succ, Nat.mul_comm, Nat.mod_mul_right_mod]
theorem pad_zero (k : Nat) : pad k 0 = List.replicate k 48 := by
  induction k with
  | zero => rfl
  | succ k ih => rw [pad, Nat.zero_div, ih, List.replicate_succ']; rfl
theorem dec_big {u : Nat} (h : ¬ u < 10) : Lib.decDigits u = Lib.decDigits (u / 10) ++ [UInt8.ofNat (48 + u % 10)] := by
  rw [Lib.decDigits, dif_neg h]
theorem pad_dec (k n : Nat) (hk : 0 < k) (hn : n < 10 ^ k) : List.replicate (k - Lib.nDigits n) 48 ++ Lib.decDigits n = pad k n ∧ Lib.nDigits n ≤ k := by
  induction k generalizing n with
  | zero => omega
  | succ k ih =>
    by_cases h : n < 10
    · rw [Lib.nDigits_small h, Lib.decDigits_one h, pad, Nat.div_eq_of_lt h, pad_zero, Nat.mod_eq_of_lt h]
      exact ⟨by rw [Nat.add_sub_cancel], by omega⟩
    · have hk0 : 0 < k := by
        rcases Nat.eq_zero_or_pos k with h0 | h0
        · subst h0; omega
        · exact h0
      obtain ⟨h1, h2⟩ := ih (n / 10) hk0 (by rw [Nat.div_lt_iff_lt_mul (by decide), ← Nat.pow_succ]; exact hn)
      rw [Lib.nDigits_big h, dec_big h, pad, ← h1, Nat.add_sub_add_right, List.append_assoc]
      exact ⟨rfl, by omega⟩
/-- Without the zeros in front: the number's decimal digits; none for 0. -/
def decT (n : Nat) : List UInt8 := if n = 0 then [] else Lib.decDigits n
theorem pad_trim (k n : Nat) (hn : n < 10 ^ k) : (pad k n).dropWhile (· == 48) = decT n := by
  induction k generalizing n with
  | zero => simp at hn; subst hn; rfl
  | succ k ih =>
    have h1 := ih (n / 10) (by rw [Nat.div_lt_iff_lt_mul (by decide), ← Nat.pow_succ]; exact hn)
    rw [pad, List.dropWhile_append, h1]
    by_cases h : n < 10
    · rw [Nat.div_eq_of_lt h, decT, if_pos rfl, Nat.mod_eq_of_lt h, decT]
      simp only [List.isEmpty_nil, if_true]
      by_cases h0 : n = 0
      · subst h0; rfl
      · rw [if_neg h0, Lib.decDigits_one h]
        have : (UInt8.ofNat (48 + n) == 48) = false := by
          have h3 : n = 1 ∨ n = 2 ∨ n = 3 ∨ n = 4 ∨ n = 5 ∨ n = 6 ∨ n = 7 ∨ n = 8 ∨ n = 9 := by omega
          rcases h3 with rfl | rfl | rfl | rfl | rfl | rfl | rfl | rfl | rfl <;> decide
        simp only [List.dropWhile, this]
    · have h2 : n / 10 ≠ 0 := by omega
      have h3 : n ≠ 0 := by omega
      rw [decT, if_neg h2, decT, if_neg h3, dec_big h]
      have hne : (Lib.decDigits (n / 10)).isEmpty = false := by
        have := Lib.nDigits_pos (n / 10)
        rw [← Lib.decDigits_length] at this
        cases h4 : Lib.decDigits (n / 10) with
        | nil => rw [h4] at this; simp at this
        | cons x l => rfl
      rw [hne]
      rfl
theorem many_room (a k : Nat) (h : (dg a).length = k) : a < 10 ^ (9 * (k * 32 / 29 + 1)) := by
  have h1 := lt_of_len (Nat.le_of_eq h)
  have h2 : (4294967296 : Nat) ^ k = 2 ^ (32 * k) := by rw [Nat.pow_mul]
  have h3 : (2 : Nat) ^ (32 * k) ≤ 2 ^ (29 * (k * 32 / 29 + 1)) := Nat.pow_le_pow_right (by decide) (by omega)
  have h4 : (2 : Nat) ^ (29 * (k * 32 / 29 + 1)) ≤ 10 ^ (9 * (k * 32 / 29 + 1)) := by
    rw [Nat.pow_mul, Nat.pow_mul]
    exact Nat.pow_le_pow_left (by decide) _
  omega
/-- The groups of a number, the greatest first. -/
def grp (X N k : Nat) : List UInt8 := pad 9 (X / 10 ^ (9 * (N - 1 - k)))
theorem grp_join (X N : Nat) : ∀ k, k ≤ N → ((List.range k).map (grp X N)).flatten = pad (9 * k) (X / 10 ^ (9 * (N - k))) := by
  intro k
  induction k with
  | zero => intro _; rfl
  | succ k ih =>
    intro hk
    rw [List.range_succ, List.map_append, List.flatten_append, ih (by omega)]
    rw [show 9 * (k + 1) = 9 * k + 9 from by omega, pad_split]
    congr 1
    · rw [Nat.div_div_eq_div_mul, ← Nat.pow_add]
      congr 3; omega
    · simp only [List.map_cons, List.map_nil, List.flatten_cons, List.flatten_nil, List.append_nil, grp]
      congr 4; omega
/-! ### Where a part of the groups comes from -/
def part (X N k0 m : Nat) : Nat := X / 10 ^ (9 * (N - k0 - m)) % 10 ^ (9 * m)
theorem part_one (X N k0 : Nat) : pad 9 (part X N k0 1) = grp X N k0 := by
  rw [part, Nat.mul_one, pad_mod, grp]; congr 3; omega
theorem gpart_lt (X N k0 m : Nat) : part X N k0 m < 10 ^ (9 * m) := Nat.mod_lt _ (Nat.pow_pos (by decide))
theorem part_hi (X N k0 m lo : Nat) (h : lo ≤ m) (hN : k0 + m ≤ N) : part X N k0 m / 10 ^ (9 * lo) = part X N k0 (m - lo) := by
  rw [part, part, show 9 * m = 9 * lo + 9 * (m - lo) from by omega, Nat.pow_add, Nat.mod_mul_right_div_self, Nat.div_div_eq_div_mul, ← Nat.pow_add]
  congr 3; omega
theorem part_lo (X N k0 m lo : Nat) (h : lo ≤ m) (hN : k0 + m ≤ N) : part X N k0 m % 10 ^ (9 * lo) = part X N (k0 + (m - lo)) lo := by
  rw [part, part, show 9 * m = 9 * lo + 9 * (m - lo) from by omega, Nat.pow_add, Nat.mod_mul_right_mod]
  congr 3; omega
theorem part_all (X N : Nat) (h : X < 10 ^ (9 * N)) : part X N 0 N = X := by
  rw [part, Nat.sub_zero, Nat.sub_self, Nat.mul_zero, Nat.pow_zero, Nat.div_one, Nat.mod_eq_of_lt h]
theorem gpart_le (X N k0 m : Nat) : part X N k0 m ≤ X := Nat.le_trans (Nat.mod_le _ _) (Nat.div_le_self _ _)
end Go.Proofs.YtfcfejlffmddnaaGreatDoor
end
section
/- Contracts: the closures of groups. -/
namespace Go.Proofs.YtfcfejlffmddnaaGreatDoor
open Go.RowKit Go.Shelf
attribute [local go_sem] Oper.semAt_some
set_option linter.unusedSimpArgs false
set_option linter.unusedVariables false

/-- A block of two cells, neither of which is a digit. -/
def HasB (b : Nat) (W : World) : Prop := ∃ p v T, W.heap[b]? = some (.cells #[p, v] T (0, 0)) ∧ (∀ n, p ≠ .int .u32 n) ∧ (∀ n, v ≠ .int .u32 n)
theorem Kp.has {w0 : World} {b : Nat} {w w' : World} (h : Kp w0.heap.size b w w') (hb0 : w0.heap.size ≤ b) (hB : HasB b w) {l : List (Option Addr × Nat × Nat × Nat)} (H : Has w0 w l) : Has w0 w' l := by
  obtain ⟨p, v, T, h1, h2, h3⟩ := hB
  exact ⟨H.b.trans (h.below (Nat.le_refl _) hb0), fun q hq => ⟨h.rd (H.r q hq).1 h1 h2 h3, (H.r q hq).2⟩⟩
theorem ten_len (j : Nat) : (dg (10 ^ j)).length ≤ j + 1 := by
  refine len_of_lt ?_
  have h1 : 10 ^ j ≤ 4294967296 ^ j := Nat.pow_le_pow_left (by decide) j
  have h2 : 0 < 4294967296 ^ j := Nat.pow_pos (by decide)
  rw [Nat.pow_succ]; omega

/-- The word on halves. -/
def HalvesSaid (w0 : World) (b y h l N X : Nat) (J : Nat → World → Prop) (M : Nat) : Prop :=
  ∀ (m k0 : Nat), 1 ≤ m → m < M → k0 + m ≤ N → ∀ (n : Nat) (W : World) (A : Option Addr) (ka ca a : Nat), J k0 W → Boxed W y 133 (.func (.yield l) #[] #[]) →
    Boxed W h 134 (.func (.func 121) #[] #[.pointer (some ⟨y, 0, none⟩), .pointer (some ⟨h, 0, none⟩)]) →
    Has w0 W [(A, ka, ca, a)] → ka ≤ 1024 → Hid (a = part X N k0 m) →
    CallsIn Fence.wide n Tryz.prog 121 #[.slice A ka ca, .int .i64 m, .pointer (some ⟨y, 0, none⟩), .pointer (some ⟨h, 0, none⟩)] W fun r W' => r = .returned (.bool true) ∧ Kp w0.heap.size b W W' ∧ J (k0 + m) W'

set_option maxRecDepth 10000 in
set_option maxHeartbeats 4000000 in
theorem halves_one (w0 : World) (hT : Tabs w0) (b y h l N X : Nat) (J : Nat → World → Prop) (hb0 : w0.heap.size ≤ b)
    (hJI : ∀ k W, J k W → Below w0.heap.size w0 W ∧ HasB b W) (hJb : ∀ k W W', J k W → Below W.heap.size W W' → J k W')
    (hY : ∀ m k W1, J k W1 → k < N → YieldAt Fence.wide m Tryz.prog l #[.string (S (grp X N k))] W1 fun r W' => r = .returned (.bool true) ∧ Kp w0.heap.size b W1 W' ∧ J (k + 1) W')
    (k0 : Nat) (hk0 : k0 + 1 ≤ N) (n : Nat) (W : World) (A : Option Addr) (ka ca a : Nat) (hJ : J k0 W) (hy : Boxed W y 133 (.func (.yield l) #[] #[])) (H : Has w0 W [(A, ka, ca, a)]) (hka : ka ≤ 1024) (ha : Hid (a = part X N k0 1)) :
    CallsIn Fence.wide n Tryz.prog 121 #[.slice A ka ca, .int .i64 1, .pointer (some ⟨y, 0, none⟩), .pointer (some ⟨h, 0, none⟩)] W fun r W' => r = .returned (.bool true) ∧ Kp w0.heap.size b W W' ∧ J (k0 + 1) W' := by
  obtain ⟨r1, e1, p1, q1⟩ := H.at (A := A) (k := ka) (c := ca) (n := a) (by simp)
  have hlt : a < 10 ^ 9 := by rw [ha.out]; have := gpart_lt X N k0 1; rwa [Nat.mul_one] at this
  have hlt2 : a < 1000000000 := by rwa [show (10 : Nat) ^ 9 = 1000000000 from rfl] at hlt
  have hg0 : (dg a).getD 0 0 = (a : Int) := by
    have := dg_getD a 0
    rw [Nat.pow_zero, Nat.div_one, Nat.mod_eq_of_lt (by omega)] at this
    exact this
  have HG := Lib.hid hg0
  have HR := Lib.hid r1
  have HE := Lib.hid e1
  have hTW := hT.below (hJI _ _ hJ).1
  obtain ⟨hpd, hnd⟩ := pad_dec 9 a (by decide) hlt
  have hpo := part_one X N k0
  rw [← ha.out] at hpo
  rw [hpo] at hpd
  have HPD := Lib.hid hpd
  obtain ⟨nd, hndd⟩ : ∃ nd, Lib.nDigits a = nd := ⟨_, rfl⟩
  rw [hndd] at hnd
  have HND := Lib.hid hndd
  obtain ⟨sb, hsb⟩ : ∃ sb : ByteArray, (⟨(Lib.decDigits a).toArray⟩ : ByteArray) = sb := ⟨_, rfl⟩
  have hF := formatUint_calls a (by omega) W hTW
  rw [hsb] at hF
  have HF := Lib.hid hF
  have hsz : sb.size = nd := by rw [← hsb]; show (Lib.decDigits a).toArray.size = nd; rw [List.size_toArray, Lib.decDigits_length]; exact hndd
  obtain ⟨c, hc⟩ : ∃ c : Nat, (9 : Int) - nd = c := ⟨9 - nd, by omega⟩
  obtain ⟨rb, hrb⟩ : ∃ rb : ByteArray, (⟨(List.replicate c (48 : UInt8)).toArray⟩ : ByteArray) = rb := ⟨_, rfl⟩
  obtain ⟨gs, hgs⟩ : ∃ gs : ByteArray, S (grp X N k0) = gs := ⟨_, rfl⟩
  have hcat : rb ++ sb = gs := by
    rw [← hgs, ← hpd, hndd, show 9 - nd = c by omega, ← hrb, ← hsb]
    exact S_of (by rw [L_append]; simp [L])
  have HJ := Lib.hid hJ
  have HY := Lib.hid hY
  have HYB := Lib.hid hy
  have HJB := Lib.hid hJb
  have HJI := Lib.hid hJI
  have hrs : ¬ 9223372036854775807 < rb.size + nd := by
    have : rb.size = c := by rw [← hrb]; show (List.replicate c (48 : UInt8)).toArray.size = c; rw [List.size_toArray, List.length_replicate]
    omega
  have hwc : IntKind.i64.wrap (c : Int) = c := by rw [IntKind.wrap_i64]; omega
  have hc8 : c ≤ 8 := by have := Lib.nDigits_pos a; omega
  have HRP := Lib.hid (fun W => by have := repeat_zero c hc8 W; rwa [hrb] at this)
  have HGS := Lib.hid hgs
  clear r1 e1 hg0 H hlt hpd hpo hndd hJ hY hTW hT hy hJb hJI hF hsb hrb hgs
  refine callsIn_of_wp Tryz.func121 rfl trivial ?_ rfl
  simp only [Tryz.ntmps121, List.size_toArray, List.length_cons, List.length_nil, Nat.reduceAdd, Nat.reduceSub, Array.replicate_succ, Array.replicate_zero, List.push_toArray, List.append_toArray, List.nil_append, List.cons_append]
  gi_wp2
  refine ⟨trivial, fun h => (by cases h), (callsIn_wide.2 (at_num A ca ka a 0 W a HE (by omega) (by omega) HR.out HG)).mono ?_⟩
  rintro e w' ⟨rfl, rfl⟩
  gi_wp2
  refine ⟨trivial, fun h => (by cases h), (callsIn_wide.2 HF.out).mono ?_⟩
  rintro e w1 ⟨rfl, hb1⟩
  have hJ1 := HJB.out _ _ _ (HJB.out _ _ _ HJ.out hb1) ((Below.refl w1.heap.size w1).drew)
  have hK1 : Kp w0.heap.size b W w1.drew := Kp.of_below (hb1.drew) (HJI.out _ _ HJ.out).1.size
  have hbx : Boxed w1 y 133 (.func (.yield l) #[] #[]) := (hb1.block _ HYB.out.lt).trans HYB.out
  have cy := hbx.cell
  have HK1 := Lib.hid hK1
  obtain ⟨fn, tmps, assign, body, hyr, hR⟩ := HY.out n k0 w1.drew hJ1 (by omega)
  rw [HGS.out] at hyr
  have HRD := Lib.hid hR
  clear hK1 hJ1 hbx hR
  gi_wp2
  refine wpIn_mono (Q := fun e a' W' => e = .normal ∧ a'.tmps.getD 6 undef = .bool true ∧ a'.defers = [] ∧ a'.tmps.size = 47 ∧ Kp w0.heap.size b w1.drew W' ∧ J (k0 + 1) W') ?_ ?_
  · refine wpIn_region_any (by kernel_rfl) ?_
    change wpAnyIn _ _ _ _ _ _ 9 #[false, false, false, false, false, false, false, false, false] _ (World.drew _)
    refine wpAnyIn_take (i := 1) (v := ?_) rfl rfl (by kernel_rfl) (by kernel_rfl) (by kernel_rfl) (fun _ _ _ h => by cases h.1) ⟨Or.inl ⟨by rfl, ?_⟩, fun _ => rfl⟩ ?_
    rotate_left
    · intro w'; go_simp; try with_reducible rfl
    go_simp
    refine wpAnyIn_take (i := 2) (v := ?_) rfl rfl (by kernel_rfl) (by kernel_rfl) (by kernel_rfl) (fun _ _ _ h => by cases h.1) ⟨Or.inl ⟨by rfl, ?_⟩, fun _ => rfl⟩ ?_
    rotate_left
    · intro w'; go_simp; try with_reducible rfl
    go_simp
    refine wpAnyIn_take (i := 3) (v := ?_) rfl rfl (by kernel_rfl) (by kernel_rfl) (by kernel_rfl) (fun _ _ _ h => by cases h.1) ⟨Or.inl ⟨by rfl, ?_⟩, fun _ => rfl⟩ ?_
    rotate_left
    · intro w'; go_simp; try with_reducible rfl
    go_simp
    refine wpAnyIn_take (i := 5) (v := ?_) rfl rfl (by kernel_rfl) (by kernel_rfl) (by kernel_rfl) (fun _ _ _ h => by cases h.1) ⟨Or.inl ⟨by rfl, ?_⟩, fun _ => rfl⟩ ?_
    rotate_left
    · intro w'; go_simp; try with_reducible rfl
    go_simp
    refine wpAnyIn_ready (rs := [0, 4]) (by kernel_rfl) (by simp) (AllReadyIn.cons rfl (fun K hK => ?_) (AllReadyIn.cons rfl (fun K hK => ?_) AllReadyIn.nil))
    · go_simp
      refine hK _ _ ?_
      clear hK K
      refine wpAnyIn_ready (rs := [4]) (by kernel_rfl) (by simp) (AllReadyIn.cons rfl (fun K hK => ?_) AllReadyIn.nil)
      go_simp
      refine ⟨trivial, fun h => (by cases h), (callsIn_wide.2 (HRP.out _)).mono ?_⟩
      rintro e w' ⟨rfl, rfl⟩
      go_simp
      refine hK _ _ ?_
      clear hK K
      refine wpAnyIn_take (i := 6) (v := ?_) rfl rfl (by kernel_rfl) (by kernel_rfl) (by kernel_rfl) (fun _ _ _ h => by cases h.1) ⟨Or.inl ⟨by rfl, ?_⟩, fun _ => rfl⟩ ?_
      rotate_left
      · intro w'; go_simp; try with_reducible rfl
      go_simp
      refine wpAnyIn_ready (rs := [7]) (by kernel_rfl) (by simp) (AllReadyIn.cons rfl (fun K hK => ?_) AllReadyIn.nil)
      go_simp
      refine ⟨fun h => (by cases h), (RoundIn.any HRD.out).mono ?_⟩
      rintro e W' ⟨rfl, hkp, hj⟩
      go_simp
      refine hK _ _ ?_
      clear hK K
      refine wpAnyIn_ready (rs := [8]) (by kernel_rfl) (by simp) (AllReadyIn.cons rfl (fun K hK => ?_) AllReadyIn.nil)
      go_simp
      refine hK _ _ ?_
      clear hK K
      refine wpAnyIn_done (by kernel_rfl) ?_ _
      exact ⟨rfl, rfl, rfl, rfl, hkp, hj⟩
    · go_simp
      refine ⟨trivial, fun h => (by cases h), (callsIn_wide.2 (HRP.out _)).mono ?_⟩
      rintro e w' ⟨rfl, rfl⟩
      go_simp
      refine hK _ _ ?_
      clear hK K
      refine wpAnyIn_take (i := 6) (v := ?_) rfl rfl (by kernel_rfl) (by kernel_rfl) (by kernel_rfl) (fun _ _ _ h => by cases h.1) ⟨Or.inl ⟨by rfl, ?_⟩, fun _ => rfl⟩ ?_
      rotate_left
      · intro w'; go_simp; try with_reducible rfl
      go_simp
      refine wpAnyIn_ready (rs := [0]) (by kernel_rfl) (by simp) (AllReadyIn.cons rfl (fun K hK => ?_) AllReadyIn.nil)
      go_simp
      refine hK _ _ ?_
      clear hK K
      refine wpAnyIn_ready (rs := [7]) (by kernel_rfl) (by simp) (AllReadyIn.cons rfl (fun K hK => ?_) AllReadyIn.nil)
      go_simp
      refine ⟨fun h => (by cases h), (RoundIn.any HRD.out).mono ?_⟩
      rintro e W' ⟨rfl, hkp, hj⟩
      go_simp
      refine hK _ _ ?_
      clear hK K
      refine wpAnyIn_ready (rs := [8]) (by kernel_rfl) (by simp) (AllReadyIn.cons rfl (fun K hK => ?_) AllReadyIn.nil)
      go_simp
      refine hK _ _ ?_
      clear hK K
      refine wpAnyIn_done (by kernel_rfl) ?_ _
      exact ⟨rfl, rfl, rfl, rfl, hkp, hj⟩
  · rintro e a' W' ⟨rfl, h6, hd, hs, hkp, hj⟩
    gi_wp2
    exact bodyPost_ret (v := .bool true) (by simp [results, Tryz.results121, go_sem]; simpa using h6) hd ⟨rfl, HK1.out.trans hkp, hj⟩
end Go.Proofs.YtfcfejlffmddnaaGreatDoor
end
section
/- Contracts: halves, groups. -/
namespace Go.Proofs.YtfcfejlffmddnaaGreatDoor
open Go.RowKit Go.Shelf
attribute [local go_sem] Oper.semAt_some
set_option linter.unusedSimpArgs false
set_option linter.unusedVariables false

set_option maxRecDepth 10000 in
set_option maxHeartbeats 4000000 in
theorem halves_step (w0 : World) (hT : Tabs w0) (b y h l N X : Nat) (hN : N ≤ 100000) (J : Nat → World → Prop) (hb0 : w0.heap.size ≤ b) (hyb : y ≠ b) (hhb : h ≠ b)
    (hJI : ∀ k W, J k W → Below w0.heap.size w0 W ∧ HasB b W) (hJb : ∀ k W W', J k W → Below W.heap.size W W' → J k W')
    (M : Nat) (ih : HalvesSaid w0 b y h l N X J M) (k0 : Nat) (hM : 2 ≤ M) (hk0 : k0 + M ≤ N) (n : Nat) (W : World) (A : Option Addr) (ka ca a : Nat) (hJ : J k0 W) (hy : Boxed W y 133 (.func (.yield l) #[] #[]))
    (hh : Boxed W h 134 (.func (.func 121) #[] #[.pointer (some ⟨y, 0, none⟩), .pointer (some ⟨h, 0, none⟩)]))
    (H : Has w0 W [(A, ka, ca, a)]) (hka : ka ≤ 1024) (ha : Hid (a = part X N k0 M)) :
    CallsIn Fence.wide n Tryz.prog 121 #[.slice A ka ca, .int .i64 M, .pointer (some ⟨y, 0, none⟩), .pointer (some ⟨h, 0, none⟩)] W fun r W' => r = .returned (.bool true) ∧ Kp w0.heap.size b W W' ∧ J (k0 + M) W' := by
  obtain ⟨lo, hlo⟩ : ∃ lo : Nat, (M : Int) / 2 = lo := ⟨M / 2, by omega⟩
  obtain ⟨hi, hhi⟩ : ∃ hi : Nat, (M : Int) - lo = hi := ⟨M - lo, by omega⟩
  have hlo1 : 1 ≤ lo := by omega
  have hhi1 : 1 ≤ hi := by omega
  have hloM : lo < M := by omega
  have hhiM : hi < M := by omega
  have hsum : hi = M - lo := by omega
  have hm1 : ((M : Int) == 1) = false := by simp; omega
  obtain ⟨n9, hn9⟩ : ∃ n9 : Nat, (9 : Int) * lo = n9 := ⟨9 * lo, by omega⟩
  have hn9' : n9 = 9 * lo := by omega
  have hpw : ∀ j, j ≤ n9 → (dg (10 ^ j)).length ≤ 268435456 := fun j hj => Nat.le_trans (ten_len j) (by omega)
  have hpl : (dg (10 ^ n9)).length ≤ 16777216 := Nat.le_trans (ten_len n9) (by omega)
  have hpp : 0 < 10 ^ n9 := Nat.pow_pos (by decide)
  have hq : a / 10 ^ n9 = part X N k0 hi := by rw [ha.out, hn9', part_hi X N k0 M lo (by omega) hk0, hsum]
  have hr : a % 10 ^ n9 = part X N (k0 + hi) lo := by rw [ha.out, hn9', part_lo X N k0 M lo (by omega) hk0, hsum]
  have hk1 : k0 + hi ≤ N := by omega
  have hk2 : k0 + hi + lo ≤ N := by omega
  have hk3 : k0 + hi + lo = k0 + M := by omega
  have hal := H.len (A := A) (k := ka) (c := ca) (n := a) (by simp)
  have hrl : (dg (a % 10 ^ n9)).length ≤ 1024 := by
    refine Nat.le_trans (len_mono (Nat.mod_le _ _)) ?_
    omega
  have HPW := Lib.hid hpw
  have HPL := Lib.hid hpl
  have HPP := Lib.hid hpp
  have HQ := Lib.hid hq
  have HRR := Lib.hid hr
  have HRL := Lib.hid hrl
  have HK1 := Lib.hid hk1
  have HK2 := Lib.hid hk2
  have HK3 := Lib.hid hk3
  have HJ := Lib.hid hJ
  have HYB := Lib.hid hy
  have HHB := Lib.hid hh
  have HJB := Lib.hid hJb
  have HJI := Lib.hid hJI
  have HH := Lib.hid H
  have IH := Lib.hid ih
  have ch := hh.cell
  have hW := (hJI _ _ hJ).1.size
  have HW := Lib.hid hW
  clear hpw hpl hpp hq hr hk1 hk2 hk3 hal hrl hJ hy hh hJb hJI H ih hsum hn9' hT hW
  refine callsIn_of_wp Tryz.func121 rfl trivial ?_ rfl
  simp only [Tryz.ntmps121, List.size_toArray, List.length_cons, List.length_nil, Nat.reduceAdd, Nat.reduceSub, Array.replicate_succ, Array.replicate_zero, List.push_toArray, List.append_toArray, List.nil_append, List.cons_append]
  gi_wp2
  refine ⟨trivial, fun h => (by cases h), (callsIn_wide.2 (of_h HH.out.rebase 10 (by omega) (by omega))).mono ?_⟩
  rintro e w1 ⟨A1, k1, c1, n1, rfl, hn1, b1, H1⟩
  obtain rfl : n1 = 10 := hn1.out
  gi_wp2
  refine ⟨trivial, fun h => (by cases h), (callsIn_wide.2 (pow_h H1 A1 k1 c1 10 n9 (by simp) (by omega) (by omega) HPW.out)).mono ?_⟩
  rintro e w2 ⟨A2, k2, c2, n2, rfl, hn2, b2, H2⟩
  obtain rfl : n2 = 10 ^ n9 := hn2.out
  have b2' := Nat.le_trans b2 HPL.out
  gi_wp2
  refine ⟨trivial, fun h => (by cases h), (callsIn_wide.2 (blocks_h H2 A ka ca a A2 k2 c2 _ (by simp) (by simp) (by omega) b2' 32 (by omega) HPP.out)).mono ?_⟩
  rintro e w3 ⟨A3, k3, c3, n3, A4, k4, c4, n4, rfl, hn3, hn4, b3, b4, H3⟩
  obtain rfl : n3 = a / 10 ^ n9 := hn3.out
  obtain rfl : n4 = a % 10 ^ n9 := hn4.out
  have hk4 : k4 ≤ 1024 := by rw [← H3.len (A := A4) (k := k4) (c := c4) (n := a % 10 ^ n9) (by simp)]; exact HRL.out
  have hW3 : Below W.heap.size W w3 := H3.b
  have HB3 := Lib.hid hW3
  have hy3 : Boxed w3 y 133 (.func (.yield l) #[] #[]) := (hW3.block _ HYB.out.lt).trans HYB.out
  have hh3 : Boxed w3 h 134 (.func (.func 121) #[] #[.pointer (some ⟨y, 0, none⟩), .pointer (some ⟨h, 0, none⟩)]) := (hW3.block _ HHB.out.lt).trans HHB.out
  have c3' := hh3.cell
  have HY3 := Lib.hid hy3
  have HH3 := Lib.hid hh3
  have hJ3 := HJB.out _ _ _ HJ.out hW3
  have HJ3 := Lib.hid hJ3
  have hq3 : Has w0 w3 [(A3, k3, c3, a / 10 ^ n9), (A4, k4, c4, a % 10 ^ n9)] := ⟨(HJI.out _ _ hJ3).1, fun p hp => H3.r p (by
    simp only [List.mem_cons, List.not_mem_nil, or_false] at hp ⊢
    rcases hp with rfl | rfl <;> simp)⟩
  have HQ3 := Lib.hid hq3
  clear hW3 hy3 hh3 hJ3 hq3 H1 H2 H3 hn1 hn2 hn3 hn4 b1 b2 b2' ch
  gi_wp2
  refine ⟨trivial, fun h => (by cases h), ?_⟩
  refine CallsIn.mono (IH.out hi k0 (by omega) (by omega) HK1.out _ w3 A3 k3 c3 _ HJ3.out HY3.out HH3.out (HQ3.out.keep (by
    intro p hp
    obtain rfl := List.mem_singleton.1 hp; simp)) (by omega) HQ) ?_
  rintro e w4 ⟨rfl, hkp4, hj4⟩
  have hy4 := hkp4.box HY3.out hyb (fun n h => by cases h)
  have hh4 := hkp4.box HH3.out hhb (fun n h => by cases h)
  have c4' := hh4.cell
  have hq4 := hkp4.has hb0 (HJI.out _ _ HJ3.out).2 HQ3.out
  have HY4 := Lib.hid hy4
  have HH4 := Lib.hid hh4
  have HQ4 := Lib.hid hq4
  have HKP4 := Lib.hid hkp4
  have HJ4 := Lib.hid hj4
  clear hkp4 hj4 hy4 hh4 hq4 c3'
  gi_wp2
  refine ⟨trivial, fun h => (by cases h), ?_⟩
  refine CallsIn.mono (IH.out lo (k0 + hi) (by omega) (by omega) HK2.out _ w4 A4 k4 c4 _ HJ4.out HY4.out HH4.out (HQ4.out.keep (by
    intro p hp
    obtain rfl := List.mem_singleton.1 hp; simp)) hk4 HRR) ?_
  rintro e w5 ⟨rfl, hkp5, hj5⟩
  have HKP5 := Lib.hid hkp5
  have HJ5 := Lib.hid hj5
  clear hkp5 hj5 c4'
  gi_wp2
  refine bodyPost_ret (v := .bool true) (by simp [results, Tryz.results121, go_sem]) rfl ⟨rfl, ?_, ?_⟩
  · exact ((Kp.of_below HB3.out HW.out).trans HKP4.out).trans HKP5.out
  · rw [← HK3.out]; exact HJ5.out
theorem halves_said (w0 : World) (hT : Tabs w0) (b y h l N X : Nat) (hN : N ≤ 100000) (J : Nat → World → Prop) (hb0 : w0.heap.size ≤ b) (hyb : y ≠ b) (hhb : h ≠ b)
    (hJI : ∀ k W, J k W → Below w0.heap.size w0 W ∧ HasB b W) (hJb : ∀ k W W', J k W → Below W.heap.size W W' → J k W')
    (hY : ∀ m k W1, J k W1 → k < N → YieldAt Fence.wide m Tryz.prog l #[.string (S (grp X N k))] W1 fun r W' => r = .returned (.bool true) ∧ Kp w0.heap.size b W1 W' ∧ J (k + 1) W') (M : Nat) : HalvesSaid w0 b y h l N X J M := by
  induction M with
  | zero => intro m k0 h1 h2; omega
  | succ M ih =>
    intro m k0 h1 h2 h3 n W A ka ca a hJ hy hh H hka ha
    by_cases he : m < M
    · exact ih m k0 h1 he h3 n W A ka ca a hJ hy hh H hka ha
    · obtain rfl : m = M := by omega
      by_cases h1' : m = 1
      · subst h1'
        exact halves_one w0 hT b y h l N X J hb0 hJI hJb hY k0 h3 n W A ka ca a hJ hy H hka ha
      · exact halves_step w0 hT b y h l N X hN J hb0 hyb hhb hJI hJb m ih k0 (by omega) h3 n W A ka ca a hJ hy hh H hka ha
end Go.Proofs.YtfcfejlffmddnaaGreatDoor
end
section
/- Contracts: groups. -/
namespace Go.Proofs.YtfcfejlffmddnaaGreatDoor
open Go.RowKit Go.Shelf
attribute [local go_sem] Oper.semAt_some
set_option linter.unusedSimpArgs false
set_option linter.unusedVariables false

set_option maxRecDepth 10000 in
set_option maxHeartbeats 4000000 in
theorem groups_yields (w0 : World) (hT : Tabs w0) (b pa pm X N : Nat) (A : Option Addr) (ka ca : Nat) (hb0 : w0.heap.size ≤ b) (hN1 : 1 ≤ N) (hN : N ≤ 100000) (hka : ka ≤ 1024) (hX : X < 10 ^ (9 * N)) (I : Nat → World → Prop)
    (hI : ∀ k W, I k W → Below w0.heap.size w0 W ∧ HasB b W ∧ Boxed W pa 78 (.slice A ka ca) ∧ Boxed W pm 3 (.int .i64 N) ∧ Has w0 W [(A, ka, ca, X)]) :
    YieldsK Tryz.prog 120 #[.pointer (some ⟨pa, 0, none⟩), .pointer (some ⟨pm, 0, none⟩)] (fun k => #[.string (S (grp X N k))]) w0.heap.size b I N := by
  intro n l J hJI hJb hY W hJ
  obtain ⟨i1, i2, i3, i4, i5⟩ := hI _ _ (hJI _ _ hJ)
  have hbW : b < W.heap.size := by obtain ⟨p, v, T, h1, _⟩ := i2; exact lt_of_block h1
  obtain ⟨W1, hW1⟩ : ∃ W1, W.alloc (.cells #[.func (.yield l) #[] #[]] 133) = W1 := ⟨_, rfl⟩
  obtain ⟨W2, hW2⟩ : ∃ W2, W1.alloc (.cells #[.nilFunc] 134) = W2 := ⟨_, rfl⟩
  have hs1 : W1.heap.size = W.heap.size + 1 := by rw [← hW1, World.size_alloc]
  have hs2 : W2.heap.size = W.heap.size + 2 := by rw [← hW2, World.size_alloc, hs1]
  have hy1 : Boxed W1 W.heap.size 133 (.func (.yield l) #[] #[]) := by rw [← hW1]; exact Boxed.new W _ _
  have hy2 : Boxed W2 W.heap.size 133 (.func (.yield l) #[] #[]) := by rw [← hW2]; exact hy1.alloc _
  have hh2 : Boxed W2 (W.heap.size + 1) 134 .nilFunc := by rw [← hW2, ← hs1]; exact Boxed.new W1 _ _
  have hb1 : Below W.heap.size W W1 := by rw [← hW1]; exact (Below.refl _ _).alloc (Nat.le_refl _) _
  have hb2 : Below W.heap.size W W2 := by rw [← hW2]; exact hb1.alloc (by omega) _
  obtain ⟨cl, hcl⟩ : ∃ cl, Value.func (.func 121) #[] #[.pointer (some ⟨W.heap.size, 0, none⟩), .pointer (some ⟨W.heap.size + 1, 0, none⟩)] = cl := ⟨_, rfl⟩
  obtain ⟨W3, hW3⟩ : ∃ W3, W2.setCell ⟨W.heap.size + 1, 0, none⟩ (.func (.func 121) #[] #[.pointer (some ⟨W.heap.size, 0, none⟩), .pointer (some ⟨W.heap.size + 1, 0, none⟩)]) = W3 := ⟨_, rfl⟩
  have hb3 : Below W.heap.size W W3 := by rw [← hW3]; exact hb2.setCell (p := ⟨W.heap.size + 1, 0, none⟩) (Nat.le_succ _) _
  have hy3 : Boxed W3 W.heap.size 133 (.func (.yield l) #[] #[]) := by
    rw [← hW3]; exact (Below.heap_setCell _ _ _ _ (show W.heap.size ≠ W.heap.size + 1 by omega)).trans hy2
  have hh3 : Boxed W3 (W.heap.size + 1) 134 (.func (.func 121) #[] #[.pointer (some ⟨W.heap.size, 0, none⟩), .pointer (some ⟨W.heap.size + 1, 0, none⟩)]) := by
    rw [← hW3]; exact hh2.set _
  have ca3 : W3.cell? ⟨pa, 0, none⟩ = some (.slice A ka ca) := Boxed.cell ((hb3.block _ i3.lt).trans i3)
  have cm3 : W3.cell? ⟨pm, 0, none⟩ = some (.int .i64 N) := Boxed.cell ((hb3.block _ i4.lt).trans i4)
  have ch3 := hh3.cell
  have ch2 := hh2.cell
  have zh2 := hh2.frozen
  have HS := Lib.hid (halves_said w0 hT b W.heap.size (W.heap.size + 1) l N X hN J hb0 (by omega) (by omega) (fun k W h => ⟨(hI _ _ (hJI _ _ h)).1, (hI _ _ (hJI _ _ h)).2.1⟩) hJb hY (N + 1))
  have HJ := Lib.hid (hJb _ _ _ hJ hb3)
  have HH3 := Lib.hid hh3
  have HY3 := Lib.hid hy3
  have HA3 := Lib.hid (i5.below hb3)
  have HPA := Lib.hid (part_all X N hX).symm
  clear hJI hJb hY hJ i1 i2 i3 i4 i5 hI hy1 hy2 hh2 hb1 hb2 hb3 hy3 hh3 hT hX hcl cl
  refine callsIn_of_wp Tryz.func120 rfl trivial ?_ rfl
  simp only [Tryz.ntmps120, List.size_toArray, List.length_cons, List.length_nil, Nat.reduceAdd, Nat.reduceSub, Array.replicate_succ, Array.replicate_zero, List.push_toArray, List.append_toArray, List.nil_append, List.cons_append]
  gi_wp2
  refine ⟨trivial, fun h => (by cases h), ?_⟩
  refine CallsIn.mono (HS.out N 0 hN1 (by omega) (by omega) _ W3 A ka ca X HJ.out HY3.out HH3.out HA3.out hka HPA) ?_
  rintro e w4 ⟨rfl, hkp4, hj4⟩
  rw [Nat.zero_add] at hj4
  gi_wp2
  go_end0
  exact ⟨⟨_, rfl⟩, hj4⟩
theorem groups_calls (A : Option Addr) (k c N : Nat) (w : World) :
    Calls Tryz.prog 85 #[.slice A k c, .int .i64 N] w fun r w' => r = .returned (.func (.func 120) #[] #[.pointer (some ⟨w.heap.size, 0, none⟩), .pointer (some ⟨w.heap.size + 1, 0, none⟩)]) ∧ (w.alloc (.cells #[.slice A k c] 78)).alloc (.cells #[.int .i64 N] 3) = w' := by
  have hmf : ∀ (fn : Fn) (first cap : Array Value) (w : World), (Instr.makeFunc fn first cap).run Tryz.prog w = .ok (.func fn first cap) w := fun _ _ _ _ => rfl
  go_enter Tryz.func85, Tryz.ntmps85
  go_wp2
  go_ret
  exact ⟨rfl, rfl⟩
end Go.Proofs.YtfcfejlffmddnaaGreatDoor
end
section
/- Contracts: the exported Text. -/
namespace Go.Proofs.YtfcfejlffmddnaaGreatDoor
open Go.RowKit Go.Shelf
attribute [local go_sem] Oper.semAt_some
set_option linter.unusedSimpArgs false
set_option linter.unusedVariables false

/-- Between two rounds of Text. -/
structure TI (w : World) (A : Option Addr) (k c X N j : Nat) (W : World) : Prop where
  bld : Bld w.heap.size w.heap.size ((List.range j).map (grp X N)).flatten W
  bl : Below w.heap.size w W
  ba : Boxed W (w.heap.size + 1) 78 (.slice A k c)
  bm : Boxed W (w.heap.size + 2) 3 (.int .i64 N)
theorem TI.below {w : World} {A : Option Addr} {k c X N j : Nat} {W W' : World} (h : TI w A k c X N j W) (hb : Below W.heap.size W W') : TI w A k c X N j W' :=
  ⟨h.bld.below hb, h.bl.trans (hb.mono h.bl.size), (hb.block _ h.ba.lt).trans h.ba, (hb.block _ h.bm.lt).trans h.bm⟩
theorem Bld.turn {B b : Nat} {bs : List UInt8} {W : World} (h : Bld B b bs W) {l : Nat} {o : Obj} (o' : Obj) (hl : W.heap[l]? = some o) (ho : o.isCells = false) : Bld B b bs (W.putObj l o') := by
  have key : ∀ k cs T fr, W.heap[k]? = some (Obj.cells cs T fr) → (W.putObj l o').heap[k]? = some (Obj.cells cs T fr) := fun k cs T fr hk =>
    (World.putObj_heap_other (fun e => by subst e; rw [hl] at hk; cases hk; cases ho)).trans hk
  obtain ⟨p, v, hb, hp, hr, hne, h8⟩ := h
  refine ⟨p, v, key _ _ _ _ hb, hp, ⟨hr.1, ?_⟩, hne, fun k cs T fr hk hh => ?_⟩
  · rcases hr.2 with h2 | ⟨g, cap, cur, hv, hg, hgb, r⟩
    · exact .inl h2
    · exact .inr ⟨g, cap, cur, hv, hg, key _ _ _ _ hgb, r⟩
  · rcases hr.2 with ⟨rfl, _⟩ | ⟨g, cap, cur, rfl, hg, hgb, r⟩
    · simp [Value.ownBlock] at hk
    · simp only [Value.ownBlock, Option.some.injEq] at hk
      subst hk
      have := (key _ _ _ _ hgb).symm.trans hh
      injection this with this
      injection this with h1 h2 h3
      subst h1
      exact h8 g cur _ _ rfl hgb
theorem TI.turn {w : World} {A : Option Addr} {k c X N j : Nat} {W : World} (h : TI w A k c X N j W) {l : Nat} {o : Obj} (o' : Obj) (hl : W.heap[l]? = some o) (ho : o.isCells = false) (hle : w.heap.size ≤ l) : TI w A k c X N j (W.putObj l o') :=
  ⟨h.bld.turn o' hl ho, below_turn h.bl o' hl (Nat.le_refl _) hle, Boxed.turn h.ba o' hl ho, Boxed.turn h.bm o' hl ho⟩
theorem Bld.hasB {B b : Nat} {bs : List UInt8} {W : World} (h : Bld B b bs W) : HasB b W := by
  obtain ⟨p, v, hb, hp, hr, _⟩ := h
  refine ⟨p, v, _, hb, fun n e => ?_, fun n e => ?_⟩
  · subst e; rcases hp with h | h <;> cases h
  · subst e; rcases hr.2 with ⟨h, _⟩ | ⟨_, _, _, h, _⟩ <;> cases h
theorem Kp.ti {w : World} {A : Option Addr} {k c X N j : Nat} {W W' : World} (h : TI w A k c X N j W) (hk : Kp w.heap.size w.heap.size W W') (hb : Bld w.heap.size w.heap.size ((List.range (j + 1)).map (grp X N)).flatten W') : TI w A k c X N (j + 1) W' :=
  ⟨hb, h.bl.trans (hk.below (Nat.le_refl _) (Nat.le_refl _)), hk.box h.ba (by omega) (fun n e => by cases e), hk.box h.bm (by omega) (fun n e => by cases e)⟩
theorem flat_len (X N j : Nat) : (((List.range j).map (grp X N)).flatten).length = 9 * j := by
  induction j with
  | zero => rfl
  | succ j ih => rw [List.range_succ, List.map_append, List.flatten_append, List.length_append, ih]; simp [grp, pad_length]; omega

set_option maxRecDepth 10000 in
theorem Text_bad (A1 : Option Addr) (k1 c1 : Nat) (g1 : List Int) (w : World) (r1 : Rd .u32 w A1 g1) (e1 : g1.length = k1) (b1 : k1 ≤ 9223372036854775807) (hv : Hid (validB g1 = false)) :
    Calls Tryz.prog 35 #[.slice A1 k1 c1] w fun e w' => e = .returned (.tuple #[.string ⟨#[]⟩, .int .i64 1]) ∧ Below w.heap.size w w' := by
  have HV := Lib.hid (valid_calls A1 c1 k1 g1 w e1 b1 r1 false hv)
  clear r1 e1 b1 hv
  go_enter Tryz.func35, Tryz.ntmps35
  go_wp2_with fail
  refine HV.out.mono ?_
  rintro e w' ⟨rfl, rfl⟩
  go_wp2_with fail
  exact bodyPost_ret (v := .tuple #[.string ⟨#[]⟩, .int .i64 1]) (by simp [results, Tryz.results35, go_sem]) rfl ⟨rfl, Below.refl _ _⟩
set_option maxRecDepth 10000 in
set_option maxHeartbeats 4000000 in
theorem Text_good (w : World) (hT : Tabs w) (A : Option Addr) (k c X : Nat) (H : Has w w [(A, k, c, X)]) (hk : k ≤ 1024) :
    Calls Tryz.prog 35 #[.slice A k c] w fun e w' => e = .returned (.tuple #[.string (S (Lib.decDigits X)), .int .i64 0]) ∧ Below w.heap.size w w' := by
  obtain ⟨r1, e1, p1, q1⟩ := H.at (A := A) (k := k) (c := c) (n := X) (by simp)
  have HV := Lib.hid (valid_calls A c k (dg X) w e1 (by omega) r1 true (Lib.hid (valid_dg X (by omega))))
  obtain ⟨q13, h13⟩ : ∃ q : Nat, (k : Int) * 32 = q := ⟨k * 32, by omega⟩
  obtain ⟨q14, h14⟩ : ∃ q : Nat, (q13 : Int) / 29 = q := ⟨q13 / 29, by omega⟩
  obtain ⟨N, hN⟩ : ∃ N : Nat, (q14 : Int) + 1 = N := ⟨q14 + 1, by omega⟩
  have hNe : N = k * 32 / 29 + 1 := by omega
  have hXlt : X < 10 ^ (9 * N) := by rw [hNe]; exact many_room X k e1
  have hN1 : 1 ≤ N := by omega
  have hN2 : N ≤ 100000 := by omega
  obtain ⟨w1, hw1⟩ : ∃ w1, w.alloc (.cells #[.pointer none, .slice none 0 0] 101) = w1 := ⟨_, rfl⟩
  have hs1 : w1.heap.size = w.heap.size + 1 := by rw [← hw1, World.size_alloc]
  obtain ⟨w3, hw3⟩ : ∃ w3, (w1.alloc (.cells #[.slice A k c] 78)).alloc (.cells #[.int .i64 N] 3) = w3 := ⟨_, rfl⟩
  have hs3 : w3.heap.size = w.heap.size + 3 := by rw [← hw3]; simp [hs1]
  have hti : TI w A k c X N 0 w3 := by
    have h1 : Bld w.heap.size w.heap.size [] w1 := by rw [← hw1]; exact Bld.new w _
    have hb1 : Below w.heap.size w w1 := by rw [← hw1]; exact (Below.refl _ _).alloc (Nat.le_refl _) _
    have hb3 : Below w1.heap.size w1 w3 := by rw [← hw3]; exact ((Below.refl _ _).alloc (Nat.le_refl _) _).alloc (by simp) _
    refine ⟨h1.below hb3, hb1.trans (hb3.mono (by omega)), ?_, ?_⟩
    · rw [← hw3, ← hs1]; exact (Boxed.new w1 _ _).alloc _
    · rw [← hw3, show w.heap.size + 2 = (w1.alloc (.cells #[.slice A k c] 78)).heap.size from by simp [hs1]]; exact Boxed.new _ _ _
  have HTI := Lib.hid hti
  have HT := Lib.hid hT
  have HH := Lib.hid H
  have HX := Lib.hid hXlt
  have hgc : Hid (Calls Tryz.prog 85 #[.slice A k c, .int .i64 N] w1 fun r w' => r = .returned (.func (.func 120) #[] #[.pointer (some ⟨w.heap.size + 1, 0, none⟩), .pointer (some ⟨w.heap.size + 2, 0, none⟩)]) ∧ w3 = w') := Lib.hid (by
    have := groups_calls A k c N w1
    rw [hs1, hw3] at this
    exact this)
  clear r1 e1 H hT hXlt hti hNe
  refine (callsIn_wide (n := 9)).1 ?_
  refine callsIn_of_wp_marks Tryz.func35 rfl trivial ?_ rfl
  simp only [Tryz.ntmps35, List.size_toArray, List.length_cons, List.length_nil, Nat.reduceAdd, Nat.reduceSub, Array.replicate_succ, Array.replicate_zero, List.push_toArray, List.append_toArray, List.nil_append, List.cons_append]
  gi_wp2
  refine ⟨trivial, (callsIn_wide.2 HV.out).mono ?_⟩
  rintro e w' ⟨rfl, rfl⟩
  gi_wp2
  refine ⟨trivial, (callsIn_wide.2 hgc.out).mono ?_⟩
  rintro e w' ⟨rfl, rfl⟩
  gi_wp2
  clear hs1 hw1 hw3 hgc HV
  refine range_seqK (n := 9) (by omega) (gf := 120) (lb := #[.pointer (some ⟨w.heap.size + 1, 0, none⟩), .pointer (some ⟨w.heap.size + 2, 0, none⟩)]) rfl (enters_of Tryz.func120 (by kernel_rfl) rfl)
    (enc := fun j => #[.string (S (grp X N j))]) (fun _ => rfl) (N := N) (B := w.heap.size) (b := w.heap.size) (by omega)
    (fun j W => TI w A k c X N j W)
    (fun j W l o o' h hle hl ho => h.turn o' hl ho (by omega))
    (fun j W W' h hb => h.below hb)
    ?iter (fun o => HTI.out.below (((Below.refl _ _).alloc (Nat.le_refl _) _).alloc (by simp) _))
    (fun j => { tmps := #[.slice A k c, undef, .string ⟨#[]⟩, .int .i64 0, .pointer (some ⟨w.heap.size, 0, none⟩), .string (S (grp X N j)), undef, .slice A k c, .bool true, .bool false, .slice A k c, .slice A k c, .int .i64 k, .int .i64 q13, .int .i64 q14, .int .i64 N,
      .func (.func 120) #[] #[.pointer (some ⟨w.heap.size + 1, 0, none⟩), .pointer (some ⟨w.heap.size + 2, 0, none⟩)], .string (S (grp X N j)), undef, undef, undef, undef, undef, undef, undef], defers := [] })
    ?assign ?body ?done
  case iter =>
    exact groups_yields w HT.out w.heap.size _ _ X N A k c (Nat.le_refl _) hN1 hN2 hk HX.out _ (fun j W h => ⟨h.bl, h.bld.hasB, h.ba, h.bm, HH.out.below h.bl⟩)
  case assign =>
    intro l j W K hK
    gi_wp2
    exact hK
  case body =>
    rintro l j W hI hj
    have hlen : (((List.range j).map (grp X N)).flatten).length + (S (grp X N j)).size ≤ 140737488355328 := by
      rw [flat_len]; simp [S, grp, pad_length, ByteArray.size]; omega
    have HWS := Lib.hid (writeString_calls w.heap.size w.heap.size _ (S (grp X N j)) W hI.bld hlen hI.bl.size)
    have HI := Lib.hid hI
    clear hI hlen
    have hext : ((List.range (j + 1)).map (grp X N)).flatten = ((List.range j).map (grp X N)).flatten ++ L (S (grp X N j)) := by
      rw [List.range_succ, List.map_append, List.flatten_append, L_S]; simp
    have HEX := Lib.hid hext
    clear hext
    gi_wp2
    refine ⟨trivial, (CallsIn.inRound l (callsIn_wide.2 HWS.out)).mono ?_⟩
    rintro e w2 ⟨rfl, hbld, hkp, hko⟩
    gi_wp2
    rw [← HEX.out] at hbld
    exact ⟨hko, hkp, hkp.ti HI.out hbld⟩
  case done =>
    rintro D W hI hD hK
    have hS := Tryz.Builder_String_k w.heap.size w.heap.size _ W (hI.bld.isF (Nat.le_refl _) (Nat.le_refl _)) (by
      intro h
      have := flat_len X N N
      rw [h] at this
      simp at this
      omega)
    rw [grp_join X N N (Nat.le_refl _), Nat.sub_self, Nat.mul_zero, Nat.pow_zero, Nat.div_one] at hS
    have HS := Lib.hid hS
    have HBL := Lib.hid hI.bl
    clear hI hS
    gi_wp2
    refine ⟨trivial, (callsIn_wide.2 HS.out).mono ?_⟩
    rintro e w4 ⟨rfl, _, hb4, hok⟩
    have hK4 := hok D _ hK (by simp; omega) (fun c fz e => by cases e)
    have hb : Below w.heap.size w w4 := HBL.out.trans hb4
    clear hK hok hb4 HBL HS
    have hTL := Tryz.strings_TrimLeft_one ⟨(pad (9 * N) X).toArray⟩ 48 (by decide) w4
    rw [show Lib.trimLeftB (⟨(pad (9 * N) X).toArray⟩ : ByteArray).data.toList 48 = decT X from pad_trim (9 * N) X HX.out] at hTL
    have HTL := Lib.hid hTL
    clear hTL
    gi_wp2
    refine ⟨trivial, (callsIn_wide.2 HTL.out).mono ?_⟩
    rintro e w5 ⟨rfl, rfl⟩
    by_cases h0 : X = 0
    · subst h0
      gi_wp2
      refine ⟨by simp, .inl ⟨_, _, rfl, run_takeDeferred hK4, ?_⟩⟩
      exact ⟨.tuple #[.string ⟨#[48]⟩, .int .i64 0], by simp [results, Tryz.results35, go_sem], by rw [Lib.decDigits_one (by decide)]; rfl, below_turn hb _ hK4 (Nat.le_refl _) (by omega)⟩
    · have hd : decT X = Lib.decDigits X := if_neg h0
      have hne : (decT X).isEmpty = false := by
        rw [hd]
        have := Lib.nDigits_pos X
        rw [← Lib.decDigits_length] at this
        cases h4 : Lib.decDigits X with
        | nil => rw [h4] at this; simp at this
        | cons x l => rfl
      have HD := Lib.hid hd
      clear hd
      gi_wp2
      refine ⟨by simp, .inl ⟨_, _, rfl, run_takeDeferred hK4, ?_⟩⟩
      exact ⟨.tuple #[.string ⟨(decT X).toArray⟩, .int .i64 0], by simp [results, Tryz.results35, go_sem], by rw [HD.out]; rfl, below_turn hb _ hK4 (Nat.le_refl _) (by omega)⟩
end Go.Proofs.YtfcfejlffmddnaaGreatDoor
end
