import Derived.Test.YtlcbjjgmkllceaaQBa
import Derived.Deep.MidRow
/- Footprints: which blocks a call may change, and what stands beside them as it did. -/
namespace Go.Proofs.Ytlcbjjgmkllceaa
open Go.RowKit

/-- a call that may change the blocks of F alone, and lay new ones; F' is what it leaves to its owner -/
structure Step (w w' : World) (F F' : Nat → Prop) : Prop where
  os : w'.os = w.os
  tape : w'.tape = w.tape
  output : w'.output = w.output
  size : w.heap.size ≤ w'.heap.size
  block : ∀ k, k < w.heap.size → ¬ F k → w'.heap[k]? = w.heap[k]?
  foot : ∀ k, F' k → F k ∨ w.heap.size ≤ k
theorem Step.refl (w : World) (F : Nat → Prop) : Step w w F F := ⟨rfl, rfl, rfl, Nat.le_refl _, fun _ _ _ => rfl, fun _ h => .inl h⟩
theorem Step.trans {a b c : World} {F G H : Nat → Prop} (h : Step a b F G) (k : Step b c G H) : Step a c F H := by
  refine ⟨k.os.trans h.os, k.tape.trans h.tape, k.output.trans h.output, Nat.le_trans h.size k.size, fun j h1 h2 => ?_, fun j hj => ?_⟩
  · rw [k.block j (Nat.lt_of_lt_of_le h1 h.size) (fun hg => ?_), h.block j h1 h2]
    rcases h.foot j hg with e | e
    · exact h2 e
    · omega
  · rcases k.foot j hj with e | e
    · exact h.foot j e
    · exact .inr (Nat.le_trans h.size e)
theorem Step.new {a b c : World} {F G : Nat → Prop} (h : Step a b F G) (k : Below b.heap.size b c) : Step a c F G :=
  ⟨k.os.trans h.os, k.tape.trans h.tape, k.output.trans h.output, Nat.le_trans h.size k.size, fun j h1 h2 => (k.block j (Nat.lt_of_lt_of_le h1 h.size)).trans (h.block j h1 h2), h.foot⟩
theorem Step.ahead {a b c : World} {F G : Nat → Prop} (k : Below a.heap.size a b) (h : Step b c F G) : Step a c F G :=
  ⟨h.os.trans k.os, h.tape.trans k.tape, h.output.trans k.output, Nat.le_trans k.size h.size, fun j h1 h2 => (h.block j (Nat.lt_of_lt_of_le h1 k.size) h2).trans (k.block j h1), fun j hj => (h.foot j hj).imp id fun e => Nat.le_trans k.size e⟩
theorem Step.below {w w' : World} {F G : Nat → Prop} {B : Nat} (h : Step w w' F G) (hB : B ≤ w.heap.size) (hF : ∀ k, F k → B ≤ k) : Below B w w' :=
  ⟨h.os, h.tape, h.output, h.size, fun k hk => h.block k (by omega) (fun e => by have := hF k e; omega)⟩
theorem Step.mono {w w' : World} {F F' G G' : Nat → Prop} (h : Step w w' F F') (h1 : ∀ k, F k → G k) (h2 : ∀ k, G' k → G k ∨ w.heap.size ≤ k) : Step w w' G G' :=
  ⟨h.os, h.tape, h.output, h.size, fun k hk hg => h.block k hk (fun e => hg (h1 k e)), h2⟩
theorem Step.of_below {w w' : World} (h : Below w.heap.size w w') (F : Nat → Prop) : Step w w' F F := ⟨h.os, h.tape, h.output, h.size, fun k hk _ => h.block k hk, fun _ e => .inl e⟩
theorem Step.of_grown {w w' : World} {F : Nat → Prop} {b : Nat} (h : w.grownBy w' (some b)) (hb : F b) : Step w w' F F :=
  ⟨h.os, h.tape, h.output, h.size, fun k hk hf => h.block k hk (fun e => hf (by rw [Option.some.inj e]; exact hb)), fun _ e => .inl e⟩
theorem Step.lo {w w' : World} {F F' : Nat → Prop} {B : Nat} (h : Step w w' F F') (hF : ∀ k, F k → B ≤ k) (hB : B ≤ w.heap.size) : ∀ k, F' k → B ≤ k := fun k hk => (h.foot k hk).elim (hF k) fun e => Nat.le_trans hB e

/-- two sets of blocks that share none -/
def Disj (F G : Nat → Prop) : Prop := ∀ k, F k → ¬ G k
theorem Disj.symm {F G : Nat → Prop} (h : Disj F G) : Disj G F := fun k hg hf => h k hf hg
theorem Disj.step {w w' : World} {F G G' : Nat → Prop} (h : Disj F G) (hs : Step w w' G G') (hF : ∀ k, F k → k < w.heap.size) : Disj F G' := fun k hf hg => (hs.foot k hg).elim (h k hf) fun e => by have := hF k hf; omega

/-- the bytes lie outside F -/
def Free (F : Nat → Prop) (A : Option Addr) (p : List UInt8) : Prop := ∀ a, A = some a → 0 < p.length → ¬ F a.block
theorem RB.step {w w' : World} {F F' : Nat → Prop} {A : Option Addr} {c : Nat} {p : List UInt8} (h : RB w A c p) (hs : Step w w' F F') (hf : Free F A p) : RB w' A c p :=
  h.keep fun a e hp => hs.block _ (h.old.out a e hp) (hf a e hp)
theorem Free.step {w w' : World} {F F' : Nat → Prop} {A : Option Addr} {c : Nat} {p : List UInt8} (hf : Free F A p) (h : RB w A c p) (hs : Step w w' F F') : Free F' A p := fun a e hp hk => (hs.foot _ hk).elim (hf a e hp) fun e2 => by have := h.old.out a e hp; omega
theorem Free.of_old {B : Nat} {F : Nat → Prop} {A : Option Addr} {p : List UInt8} (h : Old B A p) (hF : ∀ k, F k → B ≤ k) : Free F A p := fun a e hp hk => by have := h.out a e hp; have := hF _ hk; omega
theorem Free.of_new {B : Nat} {F : Nat → Prop} {A : Option Addr} {p : List UInt8} (h : ∀ a, A = some a → 0 < p.length → B ≤ a.block) (hF : ∀ k, F k → k < B) : Free F A p := fun a e hp hk => by have := h a e hp; have := hF _ hk; omega

/-- a writer that owns the blocks F -/
structure WrF (w : World) (F : Nat → Prop) (b : Nat) (p : List UInt8) : Prop where
  out : ∃ row, Wr w 0 b row p ∧ ∀ k, F k ↔ (k = b ∨ row = some k)
theorem WrF.lt {w : World} {F : Nat → Prop} {b : Nat} {p : List UInt8} (h : WrF w F b p) : ∀ k, F k → k < w.heap.size := by
  obtain ⟨row, hw, hF⟩ := h.out
  intro k hk
  rcases (hF k).1 hk with e | e
  · rw [e]; exact hw.bLt
  · exact (hw.rowLo k e).2
theorem Wr.zero {w : World} {base b : Nat} {row : Option Nat} {p : List UInt8} (h : Wr w base b row p) : Wr w 0 b row p := by
  obtain ⟨v, c1, c2, c3⟩ := h.cell
  exact ⟨⟨v, c1, c2, ⟨(c3.mono (Nat.zero_le _)).out⟩⟩, h.fz, h.ne, Nat.zero_le _⟩
theorem WrF.fresh (w : World) (k : Nat) (hk : w.heap.size = k) (t : TypeId) : WrF (w.alloc (.cells #[.slice none 0 0] t)) (· = k) k [] := by
  subst hk
  exact ⟨none, Wr.fresh w 0 (Nat.zero_le _) t, fun k => by simp⟩
theorem WrF.call {P : Program} {f : Nat} {args : Array Value} {w : World} {F : Nat → Prop} {b : Nat} {p q : List UInt8} {E : Ending} (h : WrF w F b p)
    (hc : ∀ row, Wr w 0 b row p → Calls P f args w (fun e w' => ∃ row', e = E ∧ Wr w' 0 b row' q ∧ WStep w w' b row row')) :
    Calls P f args w (fun e w' => ∃ F', e = E ∧ WrF w' F' b q ∧ Step w w' F F') := by
  obtain ⟨row, hw, hF⟩ := h.out
  refine (hc row hw).mono fun e w' ⟨row', he, hw', hs⟩ => ⟨fun k => k = b ∨ row' = some k, he, ⟨row', hw', fun _ => Iff.rfl⟩, ⟨hs.os, hs.tape, hs.output, hs.size, fun k hk hf => hs.block k hk (fun e => hf ((hF k).2 (.inl e))) (fun e => hf ((hF k).2 (.inr e.symm))), ?_⟩⟩
  rintro k (e | e)
  · exact .inl ((hF k).2 (.inl e))
  · rcases hs.row' with e2 | ⟨i, e2, hi⟩
    · exact .inl ((hF k).2 (.inr (e2.symm.trans e)))
    · rw [e2] at e
      have := Option.some.inj e
      exact .inr (by omega)
theorem WrF.step {w w' : World} {F G G' : Nat → Prop} {b : Nat} {p : List UInt8} (h : WrF w F b p) (hs : Step w w' G G') (hd : Disj F G) : WrF w' F b p := by
  obtain ⟨row, hw, hF⟩ := h.out
  have hbF : F b := (hF b).2 (.inl rfl)
  obtain ⟨v, c1, c2, c3⟩ := hw.cell
  have hb : w'.heap[b]? = w.heap[b]? := hs.block b hw.bLt (hd b hbF)
  refine ⟨row, ⟨⟨v, (World.cell?_of_block (a := ⟨b, 0, none⟩) hb).trans c1, c2, ⟨c3.out.1, ?_⟩⟩, (World.frozen?_of_block (a := ⟨b, 0, none⟩) hb).trans hw.fz, hw.ne, hw.lo⟩, hF⟩
  rcases c3.out.2 with h5 | ⟨g, cap, cur, rfl, hg, hh, r5⟩
  · exact .inl h5
  · have e : row = some g := c2.symm
    exact .inr ⟨g, cap, cur, rfl, hg, (hs.block g (Array.getElem?_eq_some_iff.1 hh).1 (hd g ((hF g).2 (.inr e)))).trans hh, r5⟩
theorem WrF.new {w w' : World} {F : Nat → Prop} {b : Nat} {p : List UInt8} (h : WrF w F b p) (hb : Below w.heap.size w w') : WrF w' F b p := by
  obtain ⟨row, hw, hF⟩ := h.out
  exact ⟨row, hw.new hb, hF⟩
theorem Rd.step {w w' : World} {F G G' : Nat → Prop} {b : Nat} {P : List UInt8} {at_ e : Nat} (h : Rd w F b P at_ e) (hs : Step w w' G G') (hd : Disj F G) : Rd w' F b P at_ e :=
  h.keep (hs.block b h.bLt (hd b h.lo)) fun k hk _ hlt => hs.block k hlt (hd k hk)
theorem Rd.stepOf {w w' : World} {F : Nat → Prop} {b : Nat} {P : List UInt8} {at_ e : Nat} (h : Rd w F b P at_ e) (hg : w.grownBy w' (some b)) : Step w w' F F := Step.of_grown hg h.lo
theorem belowA {w0 w : World} (h : Below w0.heap.size w0 w) (o : Obj) : Below w0.heap.size w0 (w.alloc o) := h.alloc h.size o
theorem belowS {w0 w : World} {g j : Nat} (h : Below w0.heap.size w0 w) (hg : w0.heap.size ≤ g) (v : Value) : Below w0.heap.size w0 (w.setCell ⟨g, j, none⟩ v) := h.setCell hg v
theorem asz (w : World) (o : Obj) : (w.alloc o).heap.size = w.heap.size + 1 := Array.size_push ..
theorem asz2 (w : World) (o p : Obj) : ((w.alloc o).alloc p).heap.size = w.heap.size + 1 + 1 := by rw [asz, asz]
theorem asz3 (w : World) (o p q : Obj) : (((w.alloc o).alloc p).alloc q).heap.size = w.heap.size + 1 + 1 + 1 := by rw [asz, asz, asz]
/-- three cells of a box are written -/
theorem put3_step (w : World) (g : Nat) (x y z : Value) : Step w (((w.setCell ⟨g, 0, none⟩ x).setCell ⟨g, 1, none⟩ y).setCell ⟨g, 2, none⟩ z) (· = g) (· = g) :=
  Step.of_grown (grown_trans (grown_trans (setCell_grown w g 0 x) (setCell_grown _ g 1 y)) (setCell_grown _ g 2 z)) rfl
end Go.Proofs.Ytlcbjjgmkllceaa

/- The reference's reader of layer 1: TakeWide, TakeRaw. -/
namespace Go.Proofs.Ytlcbjjgmkllceaa
open Go.RowKit
open WireMath (numS beN)

/-- a reader of the reference in a box of three cells -/
structure Trio (w : World) (b : Nat) (x y z : Value) : Prop where
  c0 : w.cell? ⟨b, 0, none⟩ = some x
  c1 : w.cell? ⟨b, 1, none⟩ = some y
  c2 : w.cell? ⟨b, 2, none⟩ = some z
  fz : ∀ j, w.frozen? ⟨b, j, none⟩ = false
theorem results_rd {fn : Func} {u p : Tmp} (h : fn.results = #[.tmp u, .cell p 86]) (tmps : Array Value) (w : World) (b : Nat) (x y z : Value) (hp : tmps.getD p undef = .pointer (some ⟨b, 0, none⟩)) (ht : Trio w b x y z) :
    (results fn tmps).run Try.prog w = .ok (.tuple #[tmps.getD u undef, .agg #[x, y, z]]) w := by
  have hp' : tmps[p]?.getD undef = .pointer (some ⟨b, 0, none⟩) := by simpa using hp
  have hl := run_loadVar_mid (P := Try.prog) w b 0 86 [x, y, z] _ (fun j v hj => by
    match j, hj with
    | 0, hj => simp at hj; subst hj; simpa using ht.c0
    | 1, hj => simp at hj; subst hj; simpa using ht.c1
    | 2, hj => simp at hj; subst hj; simpa using ht.c2
    | j + 3, hj => simp at hj) Try.underlying86 rfl (by kernel_rfl)
  simp [results, h, hp', asAddr, hl]

theorem Trio.fresh (w : World) (k : Nat) (hk : w.heap.size = k) (x y z : Value) (t : TypeId) : Trio (w.alloc (.cells #[x, y, z] t)) k x y z := by
  subst hk
  have e := heap_alloc_new w (.cells #[x, y, z] t)
  exact ⟨by rw [cell_of_row _ _ _ _ _ _ e]; rfl, by rw [cell_of_row _ _ _ _ _ _ e]; rfl, by rw [cell_of_row _ _ _ _ _ _ e]; rfl, fun _ => frozen_of_row _ _ _ #[x, y, z] t e⟩
theorem Trio.drew {w : World} {b : Nat} {x y z : Value} (h : Trio w b x y z) : Trio w.drew b x y z := ⟨h.c0, h.c1, h.c2, h.fz⟩

theorem Trio.keep {w w' : World} {b : Nat} {x y z : Value} (h : Trio w b x y z) (hb : w'.heap[b]? = w.heap[b]?) : Trio w' b x y z :=
  ⟨(World.cell?_of_block (a := ⟨b, 0, none⟩) hb).trans h.c0, (World.cell?_of_block (a := ⟨b, 1, none⟩) hb).trans h.c1, (World.cell?_of_block (a := ⟨b, 2, none⟩) hb).trans h.c2, fun j => (World.frozen?_of_block (a := ⟨b, j, none⟩) hb).trans (h.fz j)⟩
theorem Trio.lt {w : World} {b : Nat} {x y z : Value} (h : Trio w b x y z) : b < w.heap.size := World.block_lt_of_cell? w _ h.c0
theorem Trio.new {w w' : World} {b : Nat} {x y z : Value} (h : Trio w b x y z) (B : Below w.heap.size w w') : Trio w' b x y z := h.keep (B.block b h.lt)
theorem Trio.put {w : World} {b : Nat} {x y z : Value} (h : Trio w b x y z) (u v t : Value) : Trio (((w.setCell ⟨b, 0, none⟩ u).setCell ⟨b, 1, none⟩ v).setCell ⟨b, 2, none⟩ t) b u v t := by
  have a0 : (w.setCell ⟨b, 0, none⟩ u).cell? ⟨b, 0, none⟩ = some u := World.cell?_setCell_same _ _ _ h.c0
  have a1 : (w.setCell ⟨b, 0, none⟩ u).cell? ⟨b, 1, none⟩ = some y := (World.cell?_setCell_other _ _ _ _ (by simp)).trans h.c1
  have a2 : (w.setCell ⟨b, 0, none⟩ u).cell? ⟨b, 2, none⟩ = some z := (World.cell?_setCell_other _ _ _ _ (by simp)).trans h.c2
  have b1 : ((w.setCell ⟨b, 0, none⟩ u).setCell ⟨b, 1, none⟩ v).cell? ⟨b, 1, none⟩ = some v := World.cell?_setCell_same _ _ _ a1
  have b2 : ((w.setCell ⟨b, 0, none⟩ u).setCell ⟨b, 1, none⟩ v).cell? ⟨b, 2, none⟩ = some z := (World.cell?_setCell_other _ _ _ _ (by simp)).trans a2
  have b0 : ((w.setCell ⟨b, 0, none⟩ u).setCell ⟨b, 1, none⟩ v).cell? ⟨b, 0, none⟩ = some u := (World.cell?_setCell_other _ _ _ _ (by simp)).trans a0
  exact ⟨(World.cell?_setCell_other _ _ _ _ (by simp)).trans b0, (World.cell?_setCell_other _ _ _ _ (by simp)).trans b1, World.cell?_setCell_same _ _ _ b2, fun j => by rw [World.frozen?_setCell, World.frozen?_setCell, World.frozen?_setCell]; exact h.fz j⟩
theorem results_r1 {fn : Func} {p : Tmp} (h : fn.results = #[.cell p 86]) (tmps : Array Value) (w : World) (b : Nat) (x y z : Value) (hp : tmps.getD p undef = .pointer (some ⟨b, 0, none⟩)) (ht : Trio w b x y z) :
    (results fn tmps).run Try.prog w = .ok (.agg #[x, y, z]) w := by
  have hp' : tmps[p]?.getD undef = .pointer (some ⟨b, 0, none⟩) := by simpa using hp
  have hl := run_loadVar_mid (P := Try.prog) w b 0 86 [x, y, z] _ (fun j v hj => by
    match j, hj with
    | 0, hj => simp at hj; subst hj; simpa using ht.c0
    | 1, hj => simp at hj; subst hj; simpa using ht.c1
    | 2, hj => simp at hj; subst hj; simpa using ht.c2
    | j + 3, hj => simp at hj) Try.underlying86 rfl (by kernel_rfl)
  simp [results, h, hp', asAddr, hl]
set_option maxRecDepth 100000 in
theorem fault_calls (A : Option Addr) (n c : Nat) (T E F : Int) (w : World) :
    Calls Try.prog 81 #[.agg #[.slice A n c, .int .i64 T, .int .i64 E], .int .i64 F] w fun e' w' => e' = .returned (.agg #[.slice A n c, .int .i64 T, .int .i64 F]) ∧ Below w.heap.size w w' := by
  go_enter Try.func81, Try.ntmps81
  go_wp2
  have B1 := below_alloc1 (below_alloc1 (Below.refl w.heap.size w) (Nat.le_refl _) (.cells #[.slice A n c, .int .i64 T, .int .i64 F] 86)) (below_alloc1 (Below.refl w.heap.size w) (Nat.le_refl _) _).size (.cells #[.slice A n c, .int .i64 T, .int .i64 F] 86)
  exact bodyPost_ret (results_r1 rfl _ _ (w.heap.size + 1) _ _ _ rfl (Trio.fresh (w.alloc (.cells #[.slice A n c, .int .i64 T, .int .i64 F] 86)) (w.heap.size + 1) (Array.size_push ..) _ _ _ _)) rfl ⟨rfl, B1⟩

set_option maxRecDepth 100000 in
theorem takeWide_calls (A : Option Addr) (P : List UInt8) (c at_ e k : Nat) (N E T : Int) (hN : N = k) (hE : E = e) (hT : T = at_) (w : World) (hp : RB w A c P) (hl : P.length ≤ 9223372036854775807) (hat : at_ ≤ P.length) (hk : k ≤ 8) :
    Calls Try.prog 55 #[.agg #[.slice A P.length c, .int .i64 T, .int .i64 E], .int .i64 N] w fun e' w' => e' = .returned (.tuple #[.int .u64 (numS P at_ e k).1, .agg #[.slice A P.length c, .int .i64 (numS P at_ e k).2.1, .int .i64 (numS P at_ e k).2.2]]) ∧ Below w.heap.size w w' := by
  subst hN; subst hE; subst hT
  by_cases he : e = 0
  · subst he
    by_cases hs : P.length - at_ < k
    · have hU : numS P at_ 0 k = (0, at_, 3) := by unfold WireMath.numS; rw [if_neg (by simp), if_pos hs]
      rw [hU]
      clear hU
      have hb : decide ((P.length : Int) - at_ < k) = true := by rw [decide_eq_true_iff]; omega
      have HA := Lib.hid (below_alloc1 (below_alloc1 (Below.refl w.heap.size w) (Nat.le_refl _) (.cells #[.slice A P.length c, .int .i64 at_, .int .i64 0] 86)) (below_alloc1 (Below.refl w.heap.size w) (Nat.le_refl _) _).size (.cells #[.slice none 0 0, .int .i64 0, .int .i64 0] 86))
      go_enter Try.func55, Try.ntmps55
      go_wp2_with (go_at_call 81; (with_reducible refine (fault_calls A P.length c _ _ _ _).mono ?_); rintro e1 w1 ⟨rfl, hb1⟩; have T1 := (Trio.fresh (w.alloc (.cells #[.slice A P.length c, .int .i64 at_, .int .i64 0] 86)) (w.heap.size + 1) (Array.size_push ..) (.slice none 0 0) (.int .i64 0) (.int .i64 0) 86).new hb1; have z0 := T1.c0; have z1 := T1.c1; have z2 := T1.c2; have f0 := T1.fz 0; have f1 := T1.fz 1; have f2 := T1.fz 2)
      have B1 := HA.out.trans (hb1.mono HA.out.size)
      exact bodyPost_ret (results_rd rfl _ _ (w.heap.size + 1) _ _ _ rfl (T1.put _ _ _)) rfl ⟨rfl, ((B1.setCell (Nat.le_succ _) _).setCell (Nat.le_succ _) _).setCell (Nat.le_succ _) _⟩
    · have hb : decide ((P.length : Int) - at_ < k) = false := by rw [decide_eq_false_iff_not]; omega
      have hB := below_alloc1 (below_alloc1 (Below.refl w.heap.size w) (Nat.le_refl _) (.cells #[.slice A P.length c, .int .i64 at_, .int .i64 0] 86)) (below_alloc1 (Below.refl w.heap.size w) (Nat.le_refl _) _).size (.cells #[.slice none 0 0, .int .i64 0, .int .i64 0] 86)
      have HP := Lib.hid (hp.new hB)
      have HB := Lib.hid hB
      clear hB
      go_enter Try.func55, Try.ntmps55
      go_wp2
      go_loop [6, 7] (fun v i => ∃ j : Nat, j ≤ k ∧ i = .int .i64 j ∧ v = .int .u64 ((beN ((P.drop at_).take j) : Nat) : Int)) (fun _ i => k - (intOf i).toNat)
      case atStart => exact ⟨0, by omega, rfl, rfl⟩
      case round =>
        obtain ⟨j, hj, rfl, rfl⟩ := hrel
        by_cases hlt : j < k
        · have hjl : at_ + j < P.length := by omega
          obtain ⟨a, rfl, hc⟩ := HP.out.at_ (at_ + j) hjl
          have hbe : beN ((P.drop at_).take (j + 1)) = beN ((P.drop at_).take j) * 256 + P[at_ + j].toNat := by
            rw [List.take_succ_eq_append_getElem (by simp; omega), WireMath.beN_snoc, List.getElem_drop]
          have hlt7 : beN ((P.drop at_).take j) < 256 ^ 7 := WireMath.beN_lt _ 7 (by simp; omega)
          have hu : uB P[at_ + j] = ((P[at_ + j].toNat : Nat) : Int) := rfl
          have hr := P[at_ + j].toNat_lt
          rw [hu] at hc
          generalize P[at_ + j].toNat = u at *
          generalize beN ((P.drop at_).take j) = x at *
          have HBE := Lib.hid hbe
          have hx : x * 256 + u ≤ 18446744073709551615 := by omega
          have i0 : (0 : Int) ≤ (at_ : Int) + j := by omega
          have i1 : (at_ : Int) + j < P.length := by omega
          clear hbe hu
          go_wp2
          go_round
          case rel => exact ⟨j + 1, by omega, by go_num, by rw [HBE.out]; go_num⟩
          case measure => simp [intOf]; omega
        · obtain rfl : j = k := by omega
          have hU : Hid (numS P at_ 0 j = (beN ((P.drop at_).take j), at_ + j, 0)) := Lib.hid (by unfold WireMath.numS; rw [if_neg (by simp), if_neg hs])
          go_wp2
          go_region
          go_wp2
          have B1 := below_alloc1 (below_alloc1 (Below.refl w.heap.size w) (Nat.le_refl _) (.cells #[.slice A P.length c, .int .i64 ((at_ : Int) + j), .int .i64 0] 86)) (below_alloc1 (Below.refl w.heap.size w) (Nat.le_refl _) _).size (.cells #[.slice A P.length c, .int .i64 ((at_ : Int) + j), .int .i64 0] 86)
          exact bodyPost_ret (results_rd rfl _ _ (w.heap.size + 1) _ _ _ rfl (Trio.fresh (w.alloc (.cells #[.slice A P.length c, .int .i64 ((at_ : Int) + j), .int .i64 0] 86)) (w.heap.size + 1) (Array.size_push ..) _ _ _ _).drew) rfl ⟨by rw [hU.out]; rfl, B1.drew⟩
  · have hb : ((e : Int) != 0) = true := by rw [bne_iff_ne]; omega
    have hU : numS P at_ e k = (0, at_, e) := by unfold WireMath.numS; rw [if_pos he]
    rw [hU]
    clear hU he
    go_enter Try.func55, Try.ntmps55
    go_wp2
    go_region
    all_goals go_wp2
    have B1 := below_alloc1 (below_alloc1 (Below.refl w.heap.size w) (Nat.le_refl _) (.cells #[.slice A P.length c, .int .i64 at_, .int .i64 e] 86)) (below_alloc1 (Below.refl w.heap.size w) (Nat.le_refl _) _).size (.cells #[.slice A P.length c, .int .i64 at_, .int .i64 e] 86)
    exact bodyPost_ret (results_rd rfl _ _ (w.heap.size + 1) _ _ _ rfl (Trio.fresh (w.alloc (.cells #[.slice A P.length c, .int .i64 at_, .int .i64 e] 86)) (w.heap.size + 1) (Array.size_push ..) _ _ _ _).drew) rfl ⟨rfl, B1.drew⟩
end Go.Proofs.Ytlcbjjgmkllceaa

/- The reference's reader of layer 1: TakeRaw, Done. -/
namespace Go.Proofs.Ytlcbjjgmkllceaa
open Go.RowKit
open WireMath (numS beN rawS blobS uvarS grpL)

/-- two boxes laid -/
theorem two_boxes (w : World) (u v : Obj) : Below w.heap.size w ((w.alloc u).alloc v) := by
  have h := below_alloc1 (Below.refl w.heap.size w) (Nat.le_refl _) u
  exact below_alloc1 h h.size v
theorem Trio.other {w : World} {b g j : Nat} {x y z u : Value} (h : Trio w b x y z) (hne : b ≠ g) : Trio (w.setCell ⟨g, j, none⟩ u) b x y z := h.keep ((setCell_grown w g j u).block b h.lt (fun e => hne (Option.some.inj e)))
theorem OB.low {w : World} {base e g j : Nat} {v u : Value} {p : List UInt8} (h : OB w base e v p) (hg : g < base) : OB (w.setCell ⟨g, j, none⟩ u) base e v p := ⟨ownsRow_setCell_below h.out hg u⟩
theorem OB.drew {w : World} {base e : Nat} {v : Value} {p : List UInt8} (h : OB w base e v p) : OB w.drew base e v p := h.new (below_drew _ _)
theorem fault_N (A : Option Addr) (n c : Nat) (T E F : Int) (w : World) (f : Int) (hF : F = f) :
    Calls Try.prog 81 #[.agg #[.slice A n c, .int .i64 T, .int .i64 E], .int .i64 F] w fun e' w' => e' = .returned (.agg #[.slice A n c, .int .i64 T, .int .i64 f]) ∧ Below w.heap.size w w' := by
  subst hF; exact fault_calls A n c T E F w

set_option maxRecDepth 100000 in
theorem takeRaw_calls (A : Option Addr) (P : List UInt8) (c at_ e : Nat) (n : Int) (E T : Int) (hE : E = e) (hT : T = at_) (w : World) (hp : RB w A c P) (hl : P.length ≤ 140737488355328) (hat : at_ ≤ P.length) (hn : n ≤ 9223372036854775807) :
    Calls Try.prog 56 #[.agg #[.slice A P.length c, .int .i64 T, .int .i64 E], .int .i64 n] w fun e' w' => ∃ A' c', e' = .returned (.tuple #[.slice A' (rawS P at_ e n).1.length c', .agg #[.slice A P.length c, .int .i64 (rawS P at_ e n).2.1, .int .i64 (rawS P at_ e n).2.2]]) ∧ NewB w w' (.slice A' (rawS P at_ e n).1.length c') (rawS P at_ e n).1 := by
  subst hE; subst hT
  have hB0 := two_boxes w (.cells #[.slice A P.length c, .int .i64 at_, .int .i64 e] 86) (.cells #[.slice none 0 0, .int .i64 0, .int .i64 0] 86)
  have HB := Lib.hid hB0
  have HP := Lib.hid (hp.new hB0)
  have HT := Lib.hid (Trio.fresh (w.alloc (.cells #[.slice A P.length c, .int .i64 at_, .int .i64 e] 86)) (w.heap.size + 1) (Array.size_push ..) (.slice none 0 0) (.int .i64 0) (.int .i64 0) 86)
  clear hB0
  by_cases he : e = 0
  · subst he
    rw [show ((0 : Nat) : Int) = 0 from rfl] at HB HP HT
    by_cases hneg : n < 0
    · have hU : rawS P at_ 0 n = ([], at_, 1) := by unfold WireMath.rawS; rw [if_neg (by simp), if_pos hneg]
      rw [hU]
      clear hU
      go_enter Try.func56, Try.ntmps56
      go_wp2_with (go_at_call 81; (with_reducible refine (fault_calls A P.length c _ _ _ _).mono ?_); rintro e1 w1 ⟨rfl, hb1⟩; have T1 := HT.out.new hb1; have z0 := T1.c0; have z1 := T1.c1; have z2 := T1.c2; have f0 := T1.fz 0; have f1 := T1.fz 1; have f2 := T1.fz 2)
      have B1 := HB.out.trans (hb1.mono HB.out.size)
      exact bodyPost_ret (results_rd rfl _ _ (w.heap.size + 1) _ _ _ rfl (T1.put _ _ _)) rfl ⟨none, 0, rfl, OB.nil _ _ _, ((B1.setCell (Nat.le_succ _) _).setCell (Nat.le_succ _) _).setCell (Nat.le_succ _) _⟩
    · obtain ⟨m, rfl⟩ := Int.eq_ofNat_of_zero_le (by omega : 0 ≤ n)
      by_cases hs : P.length - at_ < m
      · have hU : rawS P at_ 0 m = ([], at_, 3) := by unfold WireMath.rawS; rw [if_neg (by simp), if_neg hneg, if_pos (by omega)]
        rw [hU]
        have hb : decide ((P.length : Int) - at_ < m) = true := by rw [decide_eq_true_iff]; omega
        clear hU
        go_enter Try.func56, Try.ntmps56
        go_wp2_with (go_at_call 81; (with_reducible refine (fault_calls A P.length c _ _ _ _).mono ?_); rintro e1 w1 ⟨rfl, hb1⟩; have T1 := HT.out.new hb1; have z0 := T1.c0; have z1 := T1.c1; have z2 := T1.c2; have f0 := T1.fz 0; have f1 := T1.fz 1; have f2 := T1.fz 2)
        have B1 := HB.out.trans (hb1.mono HB.out.size)
        exact bodyPost_ret (results_rd rfl _ _ (w.heap.size + 1) _ _ _ rfl (T1.put _ _ _)) rfl ⟨none, 0, rfl, OB.nil _ _ _, ((B1.setCell (Nat.le_succ _) _).setCell (Nat.le_succ _) _).setCell (Nat.le_succ _) _⟩
      · have hok : at_ + m ≤ P.length := by omega
        have hU : rawS P at_ 0 m = ((P.drop at_).take m, at_ + m, 0) := by unfold WireMath.rawS; rw [if_neg (by simp), if_neg hneg, if_neg (by omega)]; simp
        rw [hU]
        have hb : decide ((P.length : Int) - at_ < m) = false := by rw [decide_eq_false_iff_not]; omega
        have hcap := hp.len
        have hsl := fun w' : World => run_cut w' A P.length c at_ ((at_ : Int) + m) at_ (at_ + m) rfl (by omega) (by omega) (by omega)
        have hcut := HP.out.cut at_ (at_ + m) (by omega) hok
        rw [Nat.add_sub_cancel_left] at hsl hcut
        have hql : ((P.drop at_).take m).length = m := by simp; omega
        generalize (P.drop at_).take m = q at *
        have HCUT := Lib.hid hcut
        have HQ := Lib.hid hql
        have HS := Lib.hid (Trio.fresh w w.heap.size rfl (.slice A P.length c) (.int .i64 at_) (.int .i64 0) 86 |>.new (w' := (w.alloc (.cells #[.slice A P.length c, .int .i64 at_, .int .i64 0] 86)).alloc (.cells #[.slice none 0 0, .int .i64 0, .int .i64 0] 86)) (below_alloc1 (Below.refl _ _) (Nat.le_refl _) _))
        clear hcut hql hU hs
        go_enter Try.func56, Try.ntmps56
        go_wp2_with (go_at_call 12; (with_reducible refine (twinR (cutA A at_ c) q m (c - at_) _ HCUT.out HQ.out.symm (by have := HQ.out; omega)).mono ?_); rintro e1 w1 ⟨A1, c1, rfl, hn1⟩; have S1 := HS.out.new hn1.below; have z0 := S1.c0; have z1 := S1.c1; have z2 := S1.c2; have f0 := S1.fz 0; have f1 := S1.fz 1; have f2 := S1.fz 2; have T1 := HT.out.new hn1.below; have y0 := T1.c0; have y1 := T1.c1; have y2 := T1.c2; have g0 := T1.fz 0; have g1 := T1.fz 1; have g2 := T1.fz 2)
        go_region
        all_goals go_wp2
        have B1 := HB.out.trans (hn1.below.mono HB.out.size)
        have hz : ((w.alloc (.cells #[.slice A P.length c, .int .i64 at_, .int .i64 0] 86)).alloc (.cells #[.slice none 0 0, .int .i64 0, .int .i64 0] 86)).heap.size = w.heap.size + 2 := (Array.size_push ..).trans (congrArg (· + 1) (Array.size_push ..))
        have ho := hn1.own
        rw [hz, ← HQ.out] at ho
        rw [← HQ.out]
        refine bodyPost_ret (results_rd rfl _ _ (w.heap.size + 1) _ _ _ rfl ((T1.other (by omega)).put _ _ _).drew) rfl ⟨A1, c1, by rw [HQ.out]; rfl, ((((ho.low (by omega)).low (by omega)).low (by omega)).low (by omega)).drew.mono (by omega), ((((B1.setCell (Nat.le_refl _) _).setCell (Nat.le_succ _) _).setCell (Nat.le_succ _) _).setCell (Nat.le_succ _) _).drew⟩
  · have hb : ((e : Int) != 0) = true := by rw [bne_iff_ne]; omega
    have hU : rawS P at_ e n = ([], at_, e) := by unfold WireMath.rawS; rw [if_pos he]
    rw [hU]
    clear hU he
    go_enter Try.func56, Try.ntmps56
    go_wp2
    go_region
    all_goals go_wp2
    have B1 := two_boxes w (.cells #[.slice A P.length c, .int .i64 at_, .int .i64 e] 86) (.cells #[.slice A P.length c, .int .i64 at_, .int .i64 e] 86)
    exact bodyPost_ret (results_rd rfl _ _ (w.heap.size + 1) _ _ _ rfl (Trio.fresh (w.alloc (.cells #[.slice A P.length c, .int .i64 at_, .int .i64 e] 86)) (w.heap.size + 1) (Array.size_push ..) _ _ _ _).drew) rfl ⟨none, 0, rfl, OB.nil _ _ _, B1.drew⟩
end Go.Proofs.Ytlcbjjgmkllceaa

/- The reference of layer 1: Wide. -/
namespace Go.Proofs.Ytlcbjjgmkllceaa
open Go.RowKit
open WireMath (wideL byteAt)

theorem wideL_put (v n j : Nat) (h : j < n) : (List.replicate (j + 1) 0 ++ wideL v (n - (j + 1))).set j (byteAt v (n - (j + 1))) = List.replicate j 0 ++ wideL v (n - j) := by
  rw [show n - j = (n - (j + 1)) + 1 by omega]
  rw [List.set_append_left _ _ (by simp), List.replicate_succ', List.set_append_right _ _ (by simp)]
  simp [WireMath.wideL]
theorem byteAt_mod (v k : Nat) : ((v / 256 ^ k : Nat) : Int) % 256 = uB (byteAt v k) := by
  unfold uB WireMath.byteAt
  rw [UInt8.toNat_ofNat', show (256 : Nat) ^ k = 2 ^ (8 * k) by rw [Nat.pow_mul]]
  omega
set_option maxRecDepth 100000 in
theorem refwide_calls (v n : Nat) (V N : Int) (hV : V = v) (hN : N = n) (w : World) (hv : v ≤ 18446744073709551615) (hn : n ≤ 8) :
    Calls Try.prog 53 #[.int .u64 V, .int .i64 N] w fun e w' => ∃ A' c', e = .returned (.slice A' n c') ∧ NewB w w' (.slice A' n c') (wideL v n) := by
  subst hV; subst hN
  go_enter Try.func53, Try.ntmps53
  go_wp2_with (refine wp_makeB bt rfl _ _ rfl .i64 .i64 n n rfl rfl rfl (by omega) w.heap.size (Nat.le_refl _) fun w1 ho hb => ?_)
  go_loopw [0, 6] (fun x i wr => ∃ j : Nat, j ≤ n ∧ i = .int .i64 ((j : Int) - 1) ∧ x = .int .u64 ((v / 256 ^ (n - j) : Nat) : Int) ∧ OB wr w.heap.size 5 (.slice (some ⟨w.heap.size, 0, none⟩) n n) (List.replicate j 0 ++ wideL v (n - j)) ∧ Below w.heap.size w wr) (fun _ i _ => (intOf i + 1).toNat)
  case atStart => exact ⟨n, Nat.le_refl _, rfl, by simp, by simpa [WireMath.wideL] using ho, hb⟩
  case round =>
    obtain ⟨j, hj, rfl, rfl, HO, HB⟩ := hrel
    cases j with
    | zero =>
      rw [Nat.sub_zero, List.replicate_zero, List.nil_append] at HO
      go_wp2
      go_ret
      exact ⟨_, _, rfl, HO, HB⟩
    | succ j =>
      obtain ⟨hc, hf⟩ := HO.cell j (by simp; omega)
      obtain ⟨h1, h2⟩ := HO.set j (byteAt v (n - (j + 1)))
      rw [wideL_put v n j (by omega)] at h1
      have hb := byteAt_mod v (n - (j + 1))
      have hx : v / 256 ^ (n - j) = v / 256 ^ (n - (j + 1)) / 256 := by
        rw [show n - j = (n - (j + 1)) + 1 by omega, Nat.pow_succ, ← Nat.div_div_eq_div_mul]
      have hle : v / 256 ^ (n - (j + 1)) ≤ v := Nat.div_le_self _ _
      have HX := Lib.hid hx
      have H1 := Lib.hid h1
      have H2 := Lib.hid h2
      clear h1 h2 hx
      generalize v / 256 ^ (n - (j + 1)) = x at *
      generalize byteAt v (n - (j + 1)) = y at *
      go_wp2
      go_roundw
      case rel => exact ⟨j, by omega, rfl, by rw [HX.out]; go_num, H1.out, HB.grown H2.out HB.size (fun k e => by have := Option.some.inj e; omega)⟩
      case measure => simp [intOf] <;> omega
end Go.Proofs.Ytlcbjjgmkllceaa
