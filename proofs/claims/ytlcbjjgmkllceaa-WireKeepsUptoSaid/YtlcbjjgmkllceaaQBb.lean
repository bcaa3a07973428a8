import Derived.Test.YtlcbjjgmkllceaaQBa
import Derived.Deep.MidRow
/- Footprints: which blocks a call may change, and what stands beside them as it did. -/
namespace Go.Proofs.Ytlcbjjgmkllceaa
open Go.RowKit

/-- a call that may change the blocks of F alone, and lay new ones; F' is what it leaves to its owner -/
structure Step (w w' : World) (F F' : Nat → Prop) : Prop where
  os : w'.os = w.os
  tape : w'.tape = w.tape
  output : w'.output = w.output
  size : w.heap.size ≤ w'.heap.size
  block : ∀ k, k < w.heap.size → ¬ F k → w'.heap[k]? = w.heap[k]?
  foot : ∀ k, F' k → F k ∨ w.heap.size ≤ k
theorem Step.refl (w : World) (F : Nat → Prop) : Step w w F F := ⟨rfl, rfl, rfl, Nat.le_refl _, fun _ _ _ => rfl, fun _ h => .inl h⟩
theorem Step.trans {a b c : World} {F G H : Nat → Prop} (h : Step a b F G) (k : Step b c G H) : Step a c F H := by
  refine ⟨k.os.trans h.os, k.tape.trans h.tape, k.output.trans h.output, Nat.le_trans h.size k.size, fun j h1 h2 => ?_, fun j hj => ?_⟩
  · rw [k.block j (Nat.lt_of_lt_of_le h1 h.size) (fun hg => ?_), h.block j h1 h2]
    rcases h.foot j hg with e | e
    · exact h2 e
    · omega
  · rcases k.foot j hj with e | e
    · exact h.foot j e
    · exact .inr (Nat.le_trans h.size e)
theorem Step.new {a b c : World} {F G : Nat → Prop} (h : Step a b F G) (k : Below b.heap.size b c) : Step a c F G :=
  ⟨k.os.trans h.os, k.tape.trans h.tape, k.output.trans h.output, Nat.le_trans h.size k.size, fun j h1 h2 => (k.block j (Nat.lt_of_lt_of_le h1 h.size)).trans (h.block j h1 h2), h.foot⟩
theorem Step.ahead {a b c : World} {F G : Nat → Prop} (k : Below a.heap.size a b) (h : Step b c F G) : Step a c F G :=
  ⟨h.os.trans k.os, h.tape.trans k.tape, h.output.trans k.output, Nat.le_trans k.size h.size, fun j h1 h2 => (h.block j (Nat.lt_of_lt_of_le h1 k.size) h2).trans (k.block j h1), fun j hj => (h.foot j hj).imp id fun e => Nat.le_trans k.size e⟩
theorem Step.below {w w' : World} {F G : Nat → Prop} {B : Nat} (h : Step w w' F G) (hB : B ≤ w.heap.size) (hF : ∀ k, F k → B ≤ k) : Below B w w' :=
  ⟨h.os, h.tape, h.output, h.size, fun k hk => h.block k (by omega) (fun e => by have := hF k e; omega)⟩
theorem Step.mono {w w' : World} {F F' G G' : Nat → Prop} (h : Step w w' F F') (h1 : ∀ k, F k → G k) (h2 : ∀ k, G' k → G k ∨ w.heap.size ≤ k) : Step w w' G G' :=
  ⟨h.os, h.tape, h.output, h.size, fun k hk hg => h.block k hk (fun e => hg (h1 k e)), h2⟩
theorem Step.of_below {w w' : World} (h : Below w.heap.size w w') (F : Nat → Prop) : Step w w' F F := ⟨h.os, h.tape, h.output, h.size, fun k hk _ => h.block k hk, fun _ e => .inl e⟩
theorem Step.of_grown {w w' : World} {F : Nat → Prop} {b : Nat} (h : w.grownBy w' (some b)) (hb : F b) : Step w w' F F :=
  ⟨h.os, h.tape, h.output, h.size, fun k hk hf => h.block k hk (fun e => hf (by rw [Option.some.inj e]; exact hb)), fun _ e => .inl e⟩
theorem Step.lo {w w' : World} {F F' : Nat → Prop} {B : Nat} (h : Step w w' F F') (hF : ∀ k, F k → B ≤ k) (hB : B ≤ w.heap.size) : ∀ k, F' k → B ≤ k := fun k hk => (h.foot k hk).elim (hF k) fun e => Nat.le_trans hB e

/-- two sets of blocks that share none -/
def Disj (F G : Nat → Prop) : Prop := ∀ k, F k → ¬ G k
theorem Disj.symm {F G : Nat → Prop} (h : Disj F G) : Disj G F := fun k hg hf => h k hf hg
theorem Disj.step {w w' : World} {F G G' : Nat → Prop} (h : Disj F G) (hs : Step w w' G G') (hF : ∀ k, F k → k < w.heap.size) : Disj F G' := fun k hf hg => (hs.foot k hg).elim (h k hf) fun e => by have := hF k hf; omega

/-- the bytes lie outside F -/
def Free (F : Nat → Prop) (A : Option Addr) (p : List UInt8) : Prop := ∀ a, A = some a → 0 < p.length → ¬ F a.block
theorem RB.step {w w' : World} {F F' : Nat → Prop} {A : Option Addr} {c : Nat} {p : List UInt8} (h : RB w A c p) (hs : Step w w' F F') (hf : Free F A p) : RB w' A c p :=
  h.keep fun a e hp => hs.block _ (h.old.out a e hp) (hf a e hp)
theorem Free.step {w w' : World} {F F' : Nat → Prop} {A : Option Addr} {c : Nat} {p : List UInt8} (hf : Free F A p) (h : RB w A c p) (hs : Step w w' F F') : Free F' A p := fun a e hp hk => (hs.foot _ hk).elim (hf a e hp) fun e2 => by have := h.old.out a e hp; omega
theorem Free.of_old {B : Nat} {F : Nat → Prop} {A : Option Addr} {p : List UInt8} (h : Old B A p) (hF : ∀ k, F k → B ≤ k) : Free F A p := fun a e hp hk => by have := h.out a e hp; have := hF _ hk; omega
theorem Free.of_new {B : Nat} {F : Nat → Prop} {A : Option Addr} {p : List UInt8} (h : ∀ a, A = some a → 0 < p.length → B ≤ a.block) (hF : ∀ k, F k → k < B) : Free F A p := fun a e hp hk => by have := h a e hp; have := hF _ hk; omega

/-- a writer that owns the blocks F -/
structure WrF (w : World) (F : Nat → Prop) (b : Nat) (p : List UInt8) : Prop where
  out : ∃ row, Wr w 0 b row p ∧ ∀ k, F k ↔ (k = b ∨ row = some k)
theorem WrF.lt {w : World} {F : Nat → Prop} {b : Nat} {p : List UInt8} (h : WrF w F b p) : ∀ k, F k → k < w.heap.size := by
  obtain ⟨row, hw, hF⟩ := h.out
  intro k hk
  rcases (hF k).1 hk with e | e
  · rw [e]; exact hw.bLt
  · exact (hw.rowLo k e).2
theorem Wr.zero {w : World} {base b : Nat} {row : Option Nat} {p : List UInt8} (h : Wr w base b row p) : Wr w 0 b row p := by
  obtain ⟨v, c1, c2, c3⟩ := h.cell
  exact ⟨⟨v, c1, c2, ⟨(c3.mono (Nat.zero_le _)).out⟩⟩, h.fz, h.ne, Nat.zero_le _⟩
theorem WrF.fresh (w : World) (k : Nat) (hk : w.heap.size = k) (t : TypeId) : WrF (w.alloc (.cells #[.slice none 0 0] t)) (· = k) k [] := by
  subst hk
  exact ⟨none, Wr.fresh w 0 (Nat.zero_le _) t, fun k => by simp⟩
theorem WrF.call {P : Program} {f : Nat} {args : Array Value} {w : World} {F : Nat → Prop} {b : Nat} {p q : List UInt8} {E : Ending} (h : WrF w F b p)
    (hc : ∀ row, Wr w 0 b row p → Calls P f args w (fun e w' => ∃ row', e = E ∧ Wr w' 0 b row' q ∧ WStep w w' b row row')) :
    Calls P f args w (fun e w' => ∃ F', e = E ∧ WrF w' F' b q ∧ Step w w' F F') := by
  obtain ⟨row, hw, hF⟩ := h.out
  refine (hc row hw).mono fun e w' ⟨row', he, hw', hs⟩ => ⟨fun k => k = b ∨ row' = some k, he, ⟨row', hw', fun _ => Iff.rfl⟩, ⟨hs.os, hs.tape, hs.output, hs.size, fun k hk hf => hs.block k hk (fun e => hf ((hF k).2 (.inl e))) (fun e => hf ((hF k).2 (.inr e.symm))), ?_⟩⟩
  rintro k (e | e)
  · exact .inl ((hF k).2 (.inl e))
  · rcases hs.row' with e2 | ⟨i, e2, hi⟩
    · exact .inl ((hF k).2 (.inr (e2.symm.trans e)))
    · rw [e2] at e
      have := Option.some.inj e
      exact .inr (by omega)
theorem WrF.step {w w' : World} {F G G' : Nat → Prop} {b : Nat} {p : List UInt8} (h : WrF w F b p) (hs : Step w w' G G') (hd : Disj F G) : WrF w' F b p := by
  obtain ⟨row, hw, hF⟩ := h.out
  have hbF : F b := (hF b).2 (.inl rfl)
  obtain ⟨v, c1, c2, c3⟩ := hw.cell
  have hb : w'.heap[b]? = w.heap[b]? := hs.block b hw.bLt (hd b hbF)
  refine ⟨row, ⟨⟨v, (World.cell?_of_block (a := ⟨b, 0, none⟩) hb).trans c1, c2, ⟨c3.out.1, ?_⟩⟩, (World.frozen?_of_block (a := ⟨b, 0, none⟩) hb).trans hw.fz, hw.ne, hw.lo⟩, hF⟩
  rcases c3.out.2 with h5 | ⟨g, cap, cur, rfl, hg, hh, r5⟩
  · exact .inl h5
  · have e : row = some g := c2.symm
    exact .inr ⟨g, cap, cur, rfl, hg, (hs.block g (Array.getElem?_eq_some_iff.1 hh).1 (hd g ((hF g).2 (.inr e)))).trans hh, r5⟩
theorem WrF.new {w w' : World} {F : Nat → Prop} {b : Nat} {p : List UInt8} (h : WrF w F b p) (hb : Below w.heap.size w w') : WrF w' F b p := by
  obtain ⟨row, hw, hF⟩ := h.out
  exact ⟨row, hw.new hb, hF⟩
theorem Rd.step {w w' : World} {F G G' : Nat → Prop} {b : Nat} {P : List UInt8} {at_ e : Nat} (h : Rd w F b P at_ e) (hs : Step w w' G G') (hd : Disj F G) : Rd w' F b P at_ e :=
  h.keep (hs.block b h.bLt (hd b h.lo)) fun k hk _ hlt => hs.block k hlt (hd k hk)
theorem Rd.stepOf {w w' : World} {F : Nat → Prop} {b : Nat} {P : List UInt8} {at_ e : Nat} (h : Rd w F b P at_ e) (hg : w.grownBy w' (some b)) : Step w w' F F := Step.of_grown hg h.lo
theorem belowA {w0 w : World} (h : Below w0.heap.size w0 w) (o : Obj) : Below w0.heap.size w0 (w.alloc o) := h.alloc h.size o
theorem belowS {w0 w : World} {g j : Nat} (h : Below w0.heap.size w0 w) (hg : w0.heap.size ≤ g) (v : Value) : Below w0.heap.size w0 (w.setCell ⟨g, j, none⟩ v) := h.setCell hg v
theorem asz (w : World) (o : Obj) : (w.alloc o).heap.size = w.heap.size + 1 := Array.size_push ..
theorem asz2 (w : World) (o p : Obj) : ((w.alloc o).alloc p).heap.size = w.heap.size + 1 + 1 := by rw [asz, asz]
theorem asz3 (w : World) (o p q : Obj) : (((w.alloc o).alloc p).alloc q).heap.size = w.heap.size + 1 + 1 + 1 := by rw [asz, asz, asz]
/-- three cells of a box are written -/
theorem put3_step (w : World) (g : Nat) (x y z : Value) : Step w (((w.setCell ⟨g, 0, none⟩ x).setCell ⟨g, 1, none⟩ y).setCell ⟨g, 2, none⟩ z) (· = g) (· = g) :=
  Step.of_grown (grown_trans (grown_trans (setCell_grown w g 0 x) (setCell_grown _ g 1 y)) (setCell_grown _ g 2 z)) rfl
end Go.Proofs.Ytlcbjjgmkllceaa

/- The reference's reader of layer 1: TakeWide, TakeRaw. -/
namespace Go.Proofs.Ytlcbjjgmkllceaa
open Go.RowKit
open WireMath (numS beN)

/-- a reader of the reference in a box of three cells -/
structure Trio (w : World) (b : Nat) (x y z : Value) : Prop where
  c0 : w.cell? ⟨b, 0, none⟩ = some x
  c1 : w.cell? ⟨b, 1, none⟩ = some y
  c2 : w.cell? ⟨b, 2, none⟩ = some z
  fz : ∀ j, w.frozen? ⟨b, j, none⟩ = false
theorem results_rd {fn : Func} {u p : Tmp} (h : fn.results = #[.tmp u, .cell p 86]) (tmps : Array Value) (w : World) (b : Nat) (x y z : Value) (hp : tmps.getD p undef = .pointer (some ⟨b, 0, none⟩)) (ht : Trio w b x y z) :
    (results fn tmps).run Try.prog w = .ok (.tuple #[tmps.getD u undef, .agg #[x, y, z]]) w := by
  have hp' : tmps[p]?.getD undef = .pointer (some ⟨b, 0, none⟩) := by simpa using hp
  have hl := run_loadVar_mid (P := Try.prog) w b 0 86 [x, y, z] _ (fun j v hj => by
    match j, hj with
    | 0, hj => simp at hj; subst hj; simpa using ht.c0
    | 1, hj => simp at hj; subst hj; simpa using ht.c1
    | 2, hj => simp at hj; subst hj; simpa using ht.c2
    | j + 3, hj => simp at hj) Try.underlying86 rfl (by kernel_rfl)
  simp [results, h, hp', asAddr, hl]

theorem Trio.fresh (w : World) (k : Nat) (hk : w.heap.size = k) (x y z : Value) (t : TypeId) : Trio (w.alloc (.cells #[x, y, z] t)) k x y z := by
  subst hk
  have e := heap_alloc_new w (.cells #[x, y, z] t)
  exact ⟨by rw [cell_of_row _ _ _ _ _ _ e]; rfl, by rw [cell_of_row _ _ _ _ _ _ e]; rfl, by rw [cell_of_row _ _ _ _ _ _ e]; rfl, fun _ => frozen_of_row _ _ _ #[x, y, z] t e⟩
theorem Trio.drew {w : World} {b : Nat} {x y z : Value} (h : Trio w b x y z) : Trio w.drew b x y z := ⟨h.c0, h.c1, h.c2, h.fz⟩

theorem Trio.keep {w w' : World} {b : Nat} {x y z : Value} (h : Trio w b x y z) (hb : w'.heap[b]? = w.heap[b]?) : Trio w' b x y z :=
  ⟨(World.cell?_of_block (a := ⟨b, 0, none⟩) hb).trans h.c0, (World.cell?_of_block (a := ⟨b, 1, none⟩) hb).trans h.c1, (World.cell?_of_block (a := ⟨b, 2, none⟩) hb).trans h.c2, fun j => (World.frozen?_of_block (a := ⟨b, j, none⟩) hb).trans (h.fz j)⟩
theorem Trio.lt {w : World} {b : Nat} {x y z : Value} (h : Trio w b x y z) : b < w.heap.size := World.block_lt_of_cell? w _ h.c0
theorem Trio.new {w w' : World} {b : Nat} {x y z : Value} (h : Trio w b x y z) (B : Below w.heap.size w w') : Trio w' b x y z := h.keep (B.block b h.lt)
theorem Trio.put {w : World} {b : Nat} {x y z : Value} (h : Trio w b x y z) (u v t : Value) : Trio (((w.setCell ⟨b, 0, none⟩ u).setCell ⟨b, 1, none⟩ v).setCell ⟨b, 2, none⟩ t) b u v t := by
  have a0 : (w.setCell ⟨b, 0, none⟩ u).cell? ⟨b, 0, none⟩ = some u := World.cell?_setCell_same _ _ _ h.c0
  have a1 : (w.setCell ⟨b, 0, none⟩ u).cell? ⟨b, 1, none⟩ = some y := (World.cell?_setCell_other _ _ _ _ (by simp)).trans h.c1
  have a2 : (w.setCell ⟨b, 0, none⟩ u).cell? ⟨b, 2, none⟩ = some z := (World.cell?_setCell_other _ _ _ _ (by simp)).trans h.c2
  have b1 : ((w.setCell ⟨b, 0, none⟩ u).setCell ⟨b, 1, none⟩ v).cell? ⟨b, 1, none⟩ = some v := World.cell?_setCell_same _ _ _ a1
  have b2 : ((w.setCell ⟨b, 0, none⟩ u).setCell ⟨b, 1, none⟩ v).cell? ⟨b, 2, none⟩ = some z := (World.cell?_setCell_other _ _ _ _ (by simp)).trans a2
  have b0 : ((w.setCell ⟨b, 0, none⟩ u).setCell ⟨b, 1, none⟩ v).cell? ⟨b, 0, none⟩ = some u := (World.cell?_setCell_other _ _ _ _ (by simp)).trans a0
  exact ⟨(World.cell?_setCell_other _ _ _ _ (by simp)).trans b0, (World.cell?_setCell_other _ _ _ _ (by simp)).trans b1, World.cell?_setCell_same _ _ _ b2, fun j => by rw [World.frozen?_setCell, World.frozen?_setCell, World.frozen?_setCell]; exact h.fz j⟩
theorem results_r1 {fn : Func} {p : Tmp} (h : fn.results = #[.cell p 86]) (tmps : Array Value) (w : World) (b : Nat) (x y z : Value) (hp : tmps.getD p undef = .pointer (some ⟨b, 0, none⟩)) (ht : Trio w b x y z) :
    (results fn tmps).run Try.prog w = .ok (.agg #[x, y, z]) w := by
  have hp' : tmps[p]?.getD undef = .pointer (some ⟨b, 0, none⟩) := by simpa using hp
  have hl := run_loadVar_mid (P := Try.prog) w b 0 86 [x, y, z] _ (fun j v hj => by
    match j, hj with
    | 0, hj => simp at hj; subst hj; simpa using ht.c0
    | 1, hj => simp at hj; subst hj; simpa using ht.c1
    | 2, hj => simp at hj; subst hj; simpa using ht.c2
    | j + 3, hj => simp at hj) Try.underlying86 rfl (by kernel_rfl)
  simp [results, h, hp', asAddr, hl]
set_option maxRecDepth 100000 in
theorem fault_calls (A : Option Addr) (n c : Nat) (T E F : Int) (w : World) :
    Calls Try.prog 81 #[.agg #[.slice A n c, .int .i64 T, .int .i64 E], .int .i64 F] w fun e' w' => e' = .returned (.agg #[.slice A n c, .int .i64 T, .int .i64 F]) ∧ Below w.heap.size w w' := by
  go_enter Try.func81, Try.ntmps81
  go_wp2
  have B1 := below_alloc1 (below_alloc1 (Below.refl w.heap.size w) (Nat.le_refl _) (.cells #[.slice A n c, .int .i64 T, .int .i64 F] 86)) (below_alloc1 (Below.refl w.heap.size w) (Nat.le_refl _) _).size (.cells #[.slice A n c, .int .i64 T, .int .i64 F] 86)
  exact bodyPost_ret (results_r1 rfl _ _ (w.heap.size + 1) _ _ _ rfl (Trio.fresh (w.alloc (.cells #[.slice A n c, .int .i64 T, .int .i64 F] 86)) (w.heap.size + 1) (Array.size_push ..) _ _ _ _)) rfl ⟨rfl, B1⟩

set_option maxRecDepth 100000 in
theorem takeWide_calls (A : Option Addr) (P : List UInt8) (c at_ e k : Nat) (N E T : Int) (hN : N = k) (hE : E = e) (hT : T = at_) (w : World) (hp : RB w A c P) (hl : P.length ≤ 9223372036854775807) (hat : at_ ≤ P.length) (hk : k ≤ 8) :
    Calls Try.prog 55 #[.agg #[.slice A P.length c, .int .i64 T, .int .i64 E], .int .i64 N] w fun e' w' => e' = .returned (.tuple #[.int .u64 (numS P at_ e k).1, .agg #[.slice A P.length c, .int .i64 (numS P at_ e k).2.1, .int .i64 (numS P at_ e k).2.2]]) ∧ Below w.heap.size w w' := by
  subst hN; subst hE; subst hT
  by_cases he : e = 0
  · subst he
    by_cases hs : P.length - at_ < k
    · have hU : numS P at_ 0 k = (0, at_, 3) := by unfold WireMath.numS; rw [if_neg (by simp), if_pos hs]
      rw [hU]
      clear hU
      have hb : decide ((P.length : Int) - at_ < k) = true := by rw [decide_eq_true_iff]; omega
      have HA := Lib.hid (below_alloc1 (below_alloc1 (Below.refl w.heap.size w) (Nat.le_refl _) (.cells #[.slice A P.length c, .int .i64 at_, .int .i64 0] 86)) (below_alloc1 (Below.refl w.heap.size w) (Nat.le_refl _) _).size (.cells #[.slice none 0 0, .int .i64 0, .int .i64 0] 86))
      go_enter Try.func55, Try.ntmps55
      go_wp2_with (go_at_call 81; (with_reducible refine (fault_calls A P.length c _ _ _ _).mono ?_); rintro e1 w1 ⟨rfl, hb1⟩; have T1 := (Trio.fresh (w.alloc (.cells #[.slice A P.length c, .int .i64 at_, .int .i64 0] 86)) (w.heap.size + 1) (Array.size_push ..) (.slice none 0 0) (.int .i64 0) (.int .i64 0) 86).new hb1; have z0 := T1.c0; have z1 := T1.c1; have z2 := T1.c2; have f0 := T1.fz 0; have f1 := T1.fz 1; have f2 := T1.fz 2)
      have B1 := HA.out.trans (hb1.mono HA.out.size)
      exact bodyPost_ret (results_rd rfl _ _ (w.heap.size + 1) _ _ _ rfl (T1.put _ _ _)) rfl ⟨rfl, ((B1.setCell (Nat.le_succ _) _).setCell (Nat.le_succ _) _).setCell (Nat.le_succ _) _⟩
    · have hb : decide ((P.length : Int) - at_ < k) = false := by rw [decide_eq_false_iff_not]; omega
      have hB := below_alloc1 (below_alloc1 (Below.refl w.heap.size w) (Nat.le_refl _) (.cells #[.slice A P.length c, .int .i64 at_, .int .i64 0] 86)) (below_alloc1 (Below.refl w.heap.size w) (Nat.le_refl _) _).size (.cells #[.slice none 0 0, .int .i64 0, .int .i64 0] 86)
      have HP := Lib.hid (hp.new hB)
      have HB := Lib.hid hB
      clear hB
      go_enter Try.func55, Try.ntmps55
      go_wp2
      go_loop [6, 7] (fun v i => ∃ j : Nat, j ≤ k ∧ i = .int .i64 j ∧ v = .int .u64 ((beN ((P.drop at_).take j) : Nat) : Int)) (fun _ i => k - (intOf i).toNat)
      case atStart => exact ⟨0, by omega, rfl, rfl⟩
      case round =>
        obtain ⟨j, hj, rfl, rfl⟩ := hrel
        by_cases hlt : j < k
        · have hjl : at_ + j < P.length := by omega
          obtain ⟨a, rfl, hc⟩ := HP.out.at_ (at_ + j) hjl
          have hbe : beN ((P.drop at_).take (j + 1)) = beN ((P.drop at_).take j) * 256 + P[at_ + j].toNat := by
            rw [List.take_succ_eq_append_getElem (by simp; omega), WireMath.beN_snoc, List.getElem_drop]
          have hlt7 : beN ((P.drop at_).take j) < 256 ^ 7 := WireMath.beN_lt _ 7 (by simp; omega)
          have hu : uB P[at_ + j] = ((P[at_ + j].toNat : Nat) : Int) := rfl
          have hr := P[at_ + j].toNat_lt
          rw [hu] at hc
          generalize P[at_ + j].toNat = u at *
          generalize beN ((P.drop at_).take j) = x at *
          have HBE := Lib.hid hbe
          have hx : x * 256 + u ≤ 18446744073709551615 := by omega
          have i0 : (0 : Int) ≤ (at_ : Int) + j := by omega
          have i1 : (at_ : Int) + j < P.length := by omega
          clear hbe hu
          go_wp2
          go_round
          case rel => exact ⟨j + 1, by omega, by go_num, by rw [HBE.out]; go_num⟩
          case measure => simp [intOf]; omega
        · obtain rfl : j = k := by omega
          have hU : Hid (numS P at_ 0 j = (beN ((P.drop at_).take j), at_ + j, 0)) := Lib.hid (by unfold WireMath.numS; rw [if_neg (by simp), if_neg hs])
          go_wp2
          go_region
          go_wp2
          have B1 := below_alloc1 (below_alloc1 (Below.refl w.heap.size w) (Nat.le_refl _) (.cells #[.slice A P.length c, .int .i64 ((at_ : Int) + j), .int .i64 0] 86)) (below_alloc1 (Below.refl w.heap.size w) (Nat.le_refl _) _).size (.cells #[.slice A P.length c, .int .i64 ((at_ : Int) + j), .int .i64 0] 86)
          exact bodyPost_ret (results_rd rfl _ _ (w.heap.size + 1) _ _ _ rfl (Trio.fresh (w.alloc (.cells #[.slice A P.length c, .int .i64 ((at_ : Int) + j), .int .i64 0] 86)) (w.heap.size + 1) (Array.size_push ..) _ _ _ _).drew) rfl ⟨by rw [hU.out]; rfl, B1.drew⟩
  · have hb : ((e : Int) != 0) = true := by rw [bne_iff_ne]; omega
    have hU : numS P at_ e k = (0, at_, e) := by unfold WireMath.numS; rw [if_pos he]
    rw [hU]
    clear hU he
    go_enter Try.func55, Try.ntmps55
    go_wp2
    go_region
    all_goals go_wp2
    have B1 := below_alloc1 (below_alloc1 (Below.refl w.heap.size w) (Nat.le_refl _) (.cells #[.slice A P.length c, .int .i64 at_, .int .i64 e] 86)) (below_alloc1 (Below.refl w.heap.size w) (Nat.le_refl _) _).size (.cells #[.slice A P.length c, .int .i64 at_, .int .i64 e] 86)
    exact bodyPost_ret (results_rd rfl _ _ (w.heap.size + 1) _ _ _ rfl (Trio.fresh (w.alloc (.cells #[.slice A P.length c, .int .i64 at_, .int .i64 e] 86)) (w.heap.size + 1) (Array.size_push ..) _ _ _ _).drew) rfl ⟨rfl, B1.drew⟩
end Go.Proofs.Ytlcbjjgmkllceaa

/- The reference's reader of layer 1: TakeRaw, Done. -/
namespace Go.Proofs.Ytlcbjjgmkllceaa
open Go.RowKit
open WireMath (numS beN rawS blobS uvarS grpL)

/-- two boxes laid -/
theorem two_boxes (w : World) (u v : Obj) : Below w.heap.size w ((w.alloc u).alloc v) := by
  have h := below_alloc1 (Below.refl w.heap.size w) (Nat.le_refl _) u
  exact below_alloc1 h h.size v
theorem Trio.other {w : World} {b g j : Nat} {x y z u : Value} (h : Trio w b x y z) (hne : b ≠ g) : Trio (w.setCell ⟨g, j, none⟩ u) b x y z := h.keep ((setCell_grown w g j u).block b h.lt (fun e => hne (Option.some.inj e)))
theorem OB.low {w : World} {base e g j : Nat} {v u : Value} {p : List UInt8} (h : OB w base e v p) (hg : g < base) : OB (w.setCell ⟨g, j, none⟩ u) base e v p := ⟨ownsRow_setCell_below h.out hg u⟩
theorem OB.drew {w : World} {base e : Nat} {v : Value} {p : List UInt8} (h : OB w base e v p) : OB w.drew base e v p := h.new (below_drew _ _)
theorem fault_N (A : Option Addr) (n c : Nat) (T E F : Int) (w : World) (f : Int) (hF : F = f) :
    Calls Try.prog 81 #[.agg #[.slice A n c, .int .i64 T, .int .i64 E], .int .i64 F] w fun e' w' => e' = .returned (.agg #[.slice A n c, .int .i64 T, .int .i64 f]) ∧ Below w.heap.size w w' := by
  subst hF; exact fault_calls A n c T E F w

set_option maxRecDepth 100000 in
theorem takeRaw_calls (A : Option Addr) (P : List UInt8) (c at_ e : Nat) (n : Int) (E T : Int) (hE : E = e) (hT : T = at_) (w : World) (hp : RB w A c P) (hl : P.length ≤ 140737488355328) (hat : at_ ≤ P.length) (hn : n ≤ 9223372036854775807) :
    Calls Try.prog 56 #[.agg #[.slice A P.length c, .int .i64 T, .int .i64 E], .int .i64 n] w fun e' w' => ∃ A' c', e' = .returned (.tuple #[.slice A' (rawS P at_ e n).1.length c', .agg #[.slice A P.length c, .int .i64 (rawS P at_ e n).2.1, .int .i64 (rawS P at_ e n).2.2]]) ∧ NewB w w' (.slice A' (rawS P at_ e n).1.length c') (rawS P at_ e n).1 := by
  subst hE; subst hT
  have hB0 := two_boxes w (.cells #[.slice A P.length c, .int .i64 at_, .int .i64 e] 86) (.cells #[.slice none 0 0, .int .i64 0, .int .i64 0] 86)
  have HB := Lib.hid hB0
  have HP := Lib.hid (hp.new hB0)
  have HT := Lib.hid (Trio.fresh (w.alloc (.cells #[.slice A P.length c, .int .i64 at_, .int .i64 e] 86)) (w.heap.size + 1) (Array.size_push ..) (.slice none 0 0) (.int .i64 0) (.int .i64 0) 86)
  clear hB0
  by_cases he : e = 0
  · subst he
    rw [show ((0 : Nat) : Int) = 0 from rfl] at HB HP HT
    by_cases hneg : n < 0
    · have hU : rawS P at_ 0 n = ([], at_, 1) := by unfold WireMath.rawS; rw [if_neg (by simp), if_pos hneg]
      rw [hU]
      clear hU
      go_enter Try.func56, Try.ntmps56
      go_wp2_with (go_at_call 81; (with_reducible refine (fault_calls A P.length c _ _ _ _).mono ?_); rintro e1 w1 ⟨rfl, hb1⟩; have T1 := HT.out.new hb1; have z0 := T1.c0; have z1 := T1.c1; have z2 := T1.c2; have f0 := T1.fz 0; have f1 := T1.fz 1; have f2 := T1.fz 2)
      have B1 := HB.out.trans (hb1.mono HB.out.size)
      exact bodyPost_ret (results_rd rfl _ _ (w.heap.size + 1) _ _ _ rfl (T1.put _ _ _)) rfl ⟨none, 0, rfl, OB.nil _ _ _, ((B1.setCell (Nat.le_succ _) _).setCell (Nat.le_succ _) _).setCell (Nat.le_succ _) _⟩
    · obtain ⟨m, rfl⟩ := Int.eq_ofNat_of_zero_le (by omega : 0 ≤ n)
      by_cases hs : P.length - at_ < m
      · have hU : rawS P at_ 0 m = ([], at_, 3) := by unfold WireMath.rawS; rw [if_neg (by simp), if_neg hneg, if_pos (by omega)]
        rw [hU]
        have hb : decide ((P.length : Int) - at_ < m) = true := by rw [decide_eq_true_iff]; omega
        clear hU
        go_enter Try.func56, Try.ntmps56
        go_wp2_with (go_at_call 81; (with_reducible refine (fault_calls A P.length c _ _ _ _).mono ?_); rintro e1 w1 ⟨rfl, hb1⟩; have T1 := HT.out.new hb1; have z0 := T1.c0; have z1 := T1.c1; have z2 := T1.c2; have f0 := T1.fz 0; have f1 := T1.fz 1; have f2 := T1.fz 2)
        have B1 := HB.out.trans (hb1.mono HB.out.size)
        exact bodyPost_ret (results_rd rfl _ _ (w.heap.size + 1) _ _ _ rfl (T1.put _ _ _)) rfl ⟨none, 0, rfl, OB.nil _ _ _, ((B1.setCell (Nat.le_succ _) _).setCell (Nat.le_succ _) _).setCell (Nat.le_succ _) _⟩
      · have hok : at_ + m ≤ P.length := by omega
        have hU : rawS P at_ 0 m = ((P.drop at_).take m, at_ + m, 0) := by unfold WireMath.rawS; rw [if_neg (by simp), if_neg hneg, if_neg (by omega)]; simp
        rw [hU]
        have hb : decide ((P.length : Int) - at_ < m) = false := by rw [decide_eq_false_iff_not]; omega
        have hcap := hp.len
        have hsl := fun w' : World => run_cut w' A P.length c at_ ((at_ : Int) + m) at_ (at_ + m) rfl (by omega) (by omega) (by omega)
        have hcut := HP.out.cut at_ (at_ + m) (by omega) hok
        rw [Nat.add_sub_cancel_left] at hsl hcut
        have hql : ((P.drop at_).take m).length = m := by simp; omega
        generalize (P.drop at_).take m = q at *
        have HCUT := Lib.hid hcut
        have HQ := Lib.hid hql
        have HS := Lib.hid (Trio.fresh w w.heap.size rfl (.slice A P.length c) (.int .i64 at_) (.int .i64 0) 86 |>.new (w' := (w.alloc (.cells #[.slice A P.length c, .int .i64 at_, .int .i64 0] 86)).alloc (.cells #[.slice none 0 0, .int .i64 0, .int .i64 0] 86)) (below_alloc1 (Below.refl _ _) (Nat.le_refl _) _))
        clear hcut hql hU hs
        go_enter Try.func56, Try.ntmps56
        go_wp2_with (go_at_call 12; (with_reducible refine (twinR (cutA A at_ c) q m (c - at_) _ HCUT.out HQ.out.symm (by have := HQ.out; omega)).mono ?_); rintro e1 w1 ⟨A1, c1, rfl, hn1⟩; have S1 := HS.out.new hn1.below; have z0 := S1.c0; have z1 := S1.c1; have z2 := S1.c2; have f0 := S1.fz 0; have f1 := S1.fz 1; have f2 := S1.fz 2; have T1 := HT.out.new hn1.below; have y0 := T1.c0; have y1 := T1.c1; have y2 := T1.c2; have g0 := T1.fz 0; have g1 := T1.fz 1; have g2 := T1.fz 2)
        go_region
        all_goals go_wp2
        have B1 := HB.out.trans (hn1.below.mono HB.out.size)
        have hz : ((w.alloc (.cells #[.slice A P.length c, .int .i64 at_, .int .i64 0] 86)).alloc (.cells #[.slice none 0 0, .int .i64 0, .int .i64 0] 86)).heap.size = w.heap.size + 2 := (Array.size_push ..).trans (congrArg (· + 1) (Array.size_push ..))
        have ho := hn1.own
        rw [hz, ← HQ.out] at ho
        rw [← HQ.out]
        refine bodyPost_ret (results_rd rfl _ _ (w.heap.size + 1) _ _ _ rfl ((T1.other (by omega)).put _ _ _).drew) rfl ⟨A1, c1, by rw [HQ.out]; rfl, ((((ho.low (by omega)).low (by omega)).low (by omega)).low (by omega)).drew.mono (by omega), ((((B1.setCell (Nat.le_refl _) _).setCell (Nat.le_succ _) _).setCell (Nat.le_succ _) _).setCell (Nat.le_succ _) _).drew⟩
  · have hb : ((e : Int) != 0) = true := by rw [bne_iff_ne]; omega
    have hU : rawS P at_ e n = ([], at_, e) := by unfold WireMath.rawS; rw [if_pos he]
    rw [hU]
    clear hU he
    go_enter Try.func56, Try.ntmps56
    go_wp2
    go_region
    all_goals go_wp2
    have B1 := two_boxes w (.cells #[.slice A P.length c, .int .i64 at_, .int .i64 e] 86) (.cells #[.slice A P.length c, .int .i64 at_, .int .i64 e] 86)
    exact bodyPost_ret (results_rd rfl _ _ (w.heap.size + 1) _ _ _ rfl (Trio.fresh (w.alloc (.cells #[.slice A P.length c, .int .i64 at_, .int .i64 e] 86)) (w.heap.size + 1) (Array.size_push ..) _ _ _ _).drew) rfl ⟨none, 0, rfl, OB.nil _ _ _, B1.drew⟩
end Go.Proofs.Ytlcbjjgmkllceaa

/- The reference of layer 1: Wide. -/
namespace Go.Proofs.Ytlcbjjgmkllceaa
open Go.RowKit
open WireMath (wideL byteAt)

theorem wideL_put (v n j : Nat) (h : j < n) : (List.replicate (j + 1) 0 ++ wideL v (n - (j + 1))).set j (byteAt v (n - (j + 1))) = List.replicate j 0 ++ wideL v (n - j) := by
  rw [show n - j = (n - (j + 1)) + 1 by omega]
  rw [List.set_append_left _ _ (by simp), List.replicate_succ', List.set_append_right _ _ (by simp)]
  simp [WireMath.wideL]
theorem byteAt_mod (v k : Nat) : ((v / 256 ^ k : Nat) : Int) % 256 = uB (byteAt v k) := by
  unfold uB WireMath.byteAt
  rw [UInt8.toNat_ofNat', show (256 : Nat) ^ k = 2 ^ (8 * k) by rw [Nat.pow_mul]]
  omega
set_option maxRecDepth 100000 in
theorem refwide_calls (v n : Nat) (V N : Int) (hV : V = v) (hN : N = n) (w : World) (hv : v ≤ 18446744073709551615) (hn : n ≤ 8) :
    Calls Try.prog 53 #[.int .u64 V, .int .i64 N] w fun e w' => ∃ A' c', e = .returned (.slice A' n c') ∧ NewB w w' (.slice A' n c') (wideL v n) := by
  subst hV; subst hN
  go_enter Try.func53, Try.ntmps53
  go_wp2_with (refine wp_makeB bt rfl _ _ rfl .i64 .i64 n n rfl rfl rfl (by omega) w.heap.size (Nat.le_refl _) fun w1 ho hb => ?_)
  go_loopw [0, 6] (fun x i wr => ∃ j : Nat, j ≤ n ∧ i = .int .i64 ((j : Int) - 1) ∧ x = .int .u64 ((v / 256 ^ (n - j) : Nat) : Int) ∧ OB wr w.heap.size 5 (.slice (some ⟨w.heap.size, 0, none⟩) n n) (List.replicate j 0 ++ wideL v (n - j)) ∧ Below w.heap.size w wr) (fun _ i _ => (intOf i + 1).toNat)
  case atStart => exact ⟨n, Nat.le_refl _, rfl, by simp, by simpa [WireMath.wideL] using ho, hb⟩
  case round =>
    obtain ⟨j, hj, rfl, rfl, HO, HB⟩ := hrel
    cases j with
    | zero =>
      rw [Nat.sub_zero, List.replicate_zero, List.nil_append] at HO
      go_wp2
      go_ret
      exact ⟨_, _, rfl, HO, HB⟩
    | succ j =>
      obtain ⟨hc, hf⟩ := HO.cell j (by simp; omega)
      obtain ⟨h1, h2⟩ := HO.set j (byteAt v (n - (j + 1)))
      rw [wideL_put v n j (by omega)] at h1
      have hb := byteAt_mod v (n - (j + 1))
      have hx : v / 256 ^ (n - j) = v / 256 ^ (n - (j + 1)) / 256 := by
        rw [show n - j = (n - (j + 1)) + 1 by omega, Nat.pow_succ, ← Nat.div_div_eq_div_mul]
      have hle : v / 256 ^ (n - (j + 1)) ≤ v := Nat.div_le_self _ _
      have HX := Lib.hid hx
      have H1 := Lib.hid h1
      have H2 := Lib.hid h2
      clear h1 h2 hx
      generalize v / 256 ^ (n - (j + 1)) = x at *
      generalize byteAt v (n - (j + 1)) = y at *
      go_wp2
      go_roundw
      case rel => exact ⟨j, by omega, rfl, by rw [HX.out]; go_num, H1.out, HB.grown H2.out HB.size (fun k e => by have := Option.some.inj e; omega)⟩
      case measure => simp [intOf] <;> omega
end Go.Proofs.Ytlcbjjgmkllceaa

/- The reference's reader of layer 1: TakeUvar. -/
namespace Go.Proofs.Ytlcbjjgmkllceaa
open Go.RowKit
open WireMath (numS beN rawS blobS uvarS grpL grpTo)

theorem uvarS_ok (P : List UInt8) (at_ x m : Nat) (h : grpL (P.drop at_) = (x, m + 1)) : uvarS P at_ 0 = (x, at_ + (m + 1), 0) := by
  unfold WireMath.uvarS; rw [if_neg (by simp), h]; simp
theorem uvarS_no (P : List UInt8) (at_ : Nat) (h : grpL (P.drop at_) = (0, 0)) : uvarS P at_ 0 = (0, at_, 3) := by
  unfold WireMath.uvarS; rw [if_neg (by simp), h]; simp

set_option maxRecDepth 100000 in
theorem takeUvar_calls (A : Option Addr) (P : List UInt8) (c at_ e : Nat) (E T : Int) (hE : E = e) (hT : T = at_) (w : World) (hp : RB w A c P) (hl : P.length ≤ 140737488355328) (hat : at_ ≤ P.length) :
    Calls Try.prog 75 #[.agg #[.slice A P.length c, .int .i64 T, .int .i64 E]] w fun e' w' => e' = .returned (.tuple #[.int .u64 (uvarS P at_ e).1, .agg #[.slice A P.length c, .int .i64 (uvarS P at_ e).2.1, .int .i64 (uvarS P at_ e).2.2]]) ∧ Below w.heap.size w w' := by
  subst hE; subst hT
  have hB0 := two_boxes w (.cells #[.slice A P.length c, .int .i64 at_, .int .i64 e] 86) (.cells #[.slice none 0 0, .int .i64 0, .int .i64 0] 86)
  have HB := Lib.hid hB0
  have HP := Lib.hid (hp.new hB0)
  have HT := Lib.hid (Trio.fresh (w.alloc (.cells #[.slice A P.length c, .int .i64 at_, .int .i64 e] 86)) (w.heap.size + 1) (Array.size_push ..) (.slice none 0 0) (.int .i64 0) (.int .i64 0) 86)
  clear hB0
  by_cases he : e = 0
  · subst he
    rw [show ((0 : Nat) : Int) = 0 from rfl] at HB HP HT
    go_enter Try.func75, Try.ntmps75
    go_wp2
    go_loop [4, 5, 6] (fun v u i => ∃ j x : Nat, j ≤ 9 ∧ at_ + j ≤ P.length ∧ i = .int .i64 j ∧ u = .int .u64 ((128 ^ j : Nat) : Int) ∧ v = .int .u64 x ∧ x < 128 ^ j ∧ Hid (grpL (P.drop at_) = grpTo j x (P.drop (at_ + j)))) (fun _ _ i => 10 - (intOf i).toNat)
    case atStart => exact ⟨0, 0, by omega, hat, rfl, rfl, rfl, by simp, Lib.hid rfl⟩
    case round =>
      obtain ⟨j, x, hj, hjl, rfl, rfl, rfl, hx, HG⟩ := hrel
      have hpow : 128 ^ j ≤ 9223372036854775808 := Nat.le_trans (Nat.pow_le_pow_right (by decide) hj) (by decide)
      have hsucc : 128 ^ (j + 1) = 128 ^ j * 128 := Nat.pow_succ ..
      by_cases hend : at_ + j = P.length
      · have hU : uvarS P at_ 0 = (0, at_, 3) := uvarS_no P at_ (by rw [HG.out, hend, List.drop_length]; rfl)
        have HU := Lib.hid hU
        clear hU
        generalize 128 ^ j = U at *
        clear hsucc
        have hb : decide ((P.length : Int) ≤ (at_ : Int) + j) = true := by rw [decide_eq_true_iff]; omega
        clear hend
        go_wp2_with (go_at_call 81; (with_reducible refine (fault_calls A P.length c _ _ _ _).mono ?_); rintro e1 w1 ⟨rfl, hb1⟩; have T1 := HT.out.new hb1; have z0 := T1.c0; have z1 := T1.c1; have z2 := T1.c2; have f0 := T1.fz 0; have f1 := T1.fz 1; have f2 := T1.fz 2)
        have B1 := HB.out.trans (hb1.mono HB.out.size)
        rw [HU.out]
        exact bodyPost_ret (results_rd rfl _ _ (w.heap.size + 1) _ _ _ rfl (T1.put _ _ _)) rfl ⟨rfl, ((B1.setCell (Nat.le_succ _) _).setCell (Nat.le_succ _) _).setCell (Nat.le_succ _) _⟩
      · have hjlt : at_ + j < P.length := by omega
        obtain ⟨a, rfl, hc⟩ := HP.out.at_ (at_ + j) hjlt
        have hg : grpL (P.drop at_) = grpTo j x (P[at_ + j] :: P.drop (at_ + (j + 1))) := by rw [HG.out, List.drop_eq_getElem_cons hjlt]; rfl
        have hu : uB P[at_ + j] = ((P[at_ + j].toNat : Nat) : Int) := rfl
        have hur := P[at_ + j].toNat_lt
        rw [hu] at hc
        rw [WireMath.grpTo] at hg
        have h1 : (P[at_ + j] = 1) ↔ P[at_ + j].toNat = 1 := ⟨fun h => by rw [h]; rfl, fun h => UInt8.toNat_inj.1 h⟩
        have h0 : (P[at_ + j] = 0) ↔ P[at_ + j].toNat = 0 := ⟨fun h => by rw [h]; rfl, fun h => UInt8.toNat_inj.1 h⟩
        simp only [ne_eq, h1, h0] at hg
        clear h1 h0 hu
        generalize P[at_ + j].toNat = u at *
        have i0 : (0 : Int) ≤ (at_ : Int) + j := by omega
        have i1 : (at_ : Int) + j < P.length := by omega
        have hbn : decide ((P.length : Int) ≤ (at_ : Int) + j) = false := by rw [decide_eq_false_iff_not]; omega
        have hbig : x + u % 128 * 128 ^ j < 128 ^ (j + 1) := by
          have h2 : (u % 128 + 1) * 128 ^ j ≤ 128 * 128 ^ j := Nat.mul_le_mul_right _ (by omega)
          rw [Nat.add_mul, Nat.one_mul] at h2
          omega
        have hFault : Hid (grpL (P.drop at_) = (0, 0)) → Hid (uvarS P at_ 0 = (0, at_, 3)) := fun h => Lib.hid (uvarS_no P at_ h.out)
        have hmul0 : 0 ≤ ((u : Int) % 128 * ((128 ^ j : Nat) : Int)) := Int.mul_nonneg (by omega) (by omega)
        have hadd : ((x + u % 128 * 128 ^ j : Nat) : Int) = (x : Int) + (u : Int) % 128 * ((128 ^ j : Nat) : Int) := by
          rw [Int.natCast_add, Int.natCast_mul]; rfl
        have hmul1 : (j = 9 → u = 1) → (x : Int) + (u : Int) % 128 * ((128 ^ j : Nat) : Int) ≤ 18446744073709551615 := by
          intro h9
          rw [← hadd]
          by_cases h : j = 9
          · have h3 := h9 h
            subst h; subst h3
            have : (128 : Nat) ^ 9 = 9223372036854775808 := by decide
            rw [this] at hx ⊢
            omega
          · have h8 : 128 ^ (j + 1) ≤ 9223372036854775808 := Nat.le_trans (Nat.pow_le_pow_right (by decide) (by omega : j + 1 ≤ 9)) (by decide)
            omega
        by_cases hF1 : j = 9 ∧ u ≠ 1
        · have hU := hFault (Lib.hid (by rw [hg, if_pos (.inl hF1)]))
          have f9 : ((j : Int) == 9) = true := by rw [beq_iff_eq]; omega
          have f1 : ((u : Int) != 1) = true := by rw [bne_iff_ne]; omega
          clear hFault hg hbig hadd hmul0 hmul1 hF1 hsucc
          generalize 128 ^ j = U at *
          go_wp2_with (go_at_call 81; (with_reducible refine (fault_calls (some a) P.length c _ _ _ _).mono ?_); rintro e1 w1 ⟨rfl, hb1⟩; have T1 := HT.out.new hb1; have z0 := T1.c0; have z1 := T1.c1; have z2 := T1.c2; have f0 := T1.fz 0; have f1 := T1.fz 1; have f2 := T1.fz 2)
          have B1 := HB.out.trans (hb1.mono HB.out.size)
          rw [hU.out]
          exact bodyPost_ret (results_rd rfl _ _ (w.heap.size + 1) _ _ _ rfl (T1.put _ _ _)) rfl ⟨rfl, ((B1.setCell (Nat.le_succ _) _).setCell (Nat.le_succ _) _).setCell (Nat.le_succ _) _⟩
        · have hm1 := hmul1 (fun h => Classical.byContradiction fun h2 => hF1 ⟨h, h2⟩)
          clear hmul1
          by_cases hF2 : 0 < j ∧ u = 0
          · have hU := hFault (Lib.hid (by rw [hg, if_pos (.inr hF2)]))
            have f9 : ((j : Int) == 9) = false := by rw [beq_eq_false_iff_ne]; omega
            have flt : decide ((u : Int) < 128) = true := by rw [decide_eq_true_iff]; omega
            have f0 : ((u : Int) == 0) = true := by rw [beq_iff_eq]; omega
            have fj : 0 < j := hF2.1
            clear hFault hg hbig hadd hF1 hF2 hsucc
            generalize 128 ^ j = U at *
            go_wp2_with (go_at_call 81; (with_reducible refine (fault_calls (some a) P.length c _ _ _ _).mono ?_); rintro e1 w1 ⟨rfl, hb1⟩; have T1 := HT.out.new hb1; have z0 := T1.c0; have z1 := T1.c1; have z2 := T1.c2; have f0 := T1.fz 0; have f1 := T1.fz 1; have f2 := T1.fz 2)
            have B1 := HB.out.trans (hb1.mono HB.out.size)
            rw [hU.out]
            exact bodyPost_ret (results_rd rfl _ _ (w.heap.size + 1) _ _ _ rfl (T1.put _ _ _)) rfl ⟨rfl, ((B1.setCell (Nat.le_succ _) _).setCell (Nat.le_succ _) _).setCell (Nat.le_succ _) _⟩
          · rw [if_neg (by omega)] at hg
            by_cases hlt : u < 128
            · rw [if_pos hlt] at hg
              have HU := Lib.hid (uvarS_ok P at_ _ j hg)
              have flt : decide ((u : Int) < 128) = true := by rw [decide_eq_true_iff]; omega
              have HA := Lib.hid hadd
              clear hFault hg hbig hadd hsucc
              generalize 128 ^ j = U at *
              have hcase : (((j : Int) == 9) = true ∧ ((u : Int) != 1) = false ∧ ((u : Int) == 0) = false) ∨ (((j : Int) == 9) = false ∧ ((u : Int) == 0) = false) ∨ (((j : Int) == 9) = false ∧ ((u : Int) == 0) = true ∧ ¬ 0 < j) := by
                simp only [beq_iff_eq, beq_eq_false_iff_ne, bne_eq_false_iff_eq]; omega
              clear hF1 hF2
              rcases hcase with ⟨f9, f1, f0⟩ | ⟨f9, f0⟩ | ⟨f9, f0, fj⟩
              all_goals
                go_wp2
                go_region
                all_goals go_wp2
                rw [HU.out]
                have e1 : ((at_ + (j + 1) : Nat) : Int) = (at_ : Int) + ((j : Int) + 1) := by omega
                simp only [HA.out, e1]
                have B1 := two_boxes w (.cells #[.slice (some a) P.length c, .int .i64 ((at_ : Int) + ((j : Int) + 1)), .int .i64 0] 86) (.cells #[.slice (some a) P.length c, .int .i64 ((at_ : Int) + ((j : Int) + 1)), .int .i64 0] 86)
                exact bodyPost_ret (results_rd rfl _ _ (w.heap.size + 1) _ _ _ rfl (Trio.fresh (w.alloc (.cells #[.slice (some a) P.length c, .int .i64 ((at_ : Int) + ((j : Int) + 1)), .int .i64 0] 86)) (w.heap.size + 1) (Array.size_push ..) _ _ _ _).drew) rfl ⟨rfl, B1.drew⟩
            · rw [if_neg hlt] at hg
              have flt : decide ((u : Int) < 128) = false := by rw [decide_eq_false_iff_not]; omega
              have f9 : ((j : Int) == 9) = false := by rw [beq_eq_false_iff_ne]; omega
              have HA := Lib.hid hadd
              have HG2 := Lib.hid hg
              have HX := Lib.hid hbig
              have HS := Lib.hid hsucc
              have hj8 : j ≤ 8 := by omega
              have h8 : 128 ^ (j + 1) ≤ 9223372036854775808 := Nat.le_trans (Nat.pow_le_pow_right (by decide) (by omega : j + 1 ≤ 9)) (by decide)
              have hU7 : 128 ^ j * 128 ≤ 9223372036854775808 := by omega
              clear hFault hg hbig hadd hF1 hF2 hsucc h8
              generalize hU : 128 ^ j = U at *
              generalize hU2 : 128 ^ (j + 1) = U2 at *
              have HU := Lib.hid hU
              have HU2 := Lib.hid hU2
              clear hU hU2
              go_wp2
              go_round
              case rel => exact ⟨j + 1, x + u % 128 * U, by omega, by omega, by go_num, by rw [HU2.out, HS.out]; go_num, by rw [HA.out], by rw [HU2.out]; exact HX.out, HG2⟩
              case measure => simp [intOf]; omega
  · have hb : ((e : Int) != 0) = true := by rw [bne_iff_ne]; omega
    have hU : uvarS P at_ e = (0, at_, e) := by unfold WireMath.uvarS; rw [if_pos he]
    rw [hU]
    clear hU he
    go_enter Try.func75, Try.ntmps75
    go_wp2
    go_region
    all_goals go_wp2
    have B1 := two_boxes w (.cells #[.slice A P.length c, .int .i64 at_, .int .i64 e] 86) (.cells #[.slice A P.length c, .int .i64 at_, .int .i64 e] 86)
    exact bodyPost_ret (results_rd rfl _ _ (w.heap.size + 1) _ _ _ rfl (Trio.fresh (w.alloc (.cells #[.slice A P.length c, .int .i64 at_, .int .i64 e] 86)) (w.heap.size + 1) (Array.size_push ..) _ _ _ _).drew) rfl ⟨rfl, B1.drew⟩
end Go.Proofs.Ytlcbjjgmkllceaa

/- The reference's reader of layer 1: TakeBlob, Done; its writer: Uvar, Blob. -/
namespace Go.Proofs.Ytlcbjjgmkllceaa
open Go.RowKit
open WireMath (numS beN rawS blobS uvarS grpL grpTo uvarL uvarF grp lst)

theorem takeUvarN (A : Option Addr) (P : List UInt8) (c at_ : Nat) (T : Int) (hT : T = at_) (w : World) (hp : RB w A c P) (hl : P.length ≤ 140737488355328) (hat : at_ ≤ P.length) (v a2 e2 : Nat) (hU : uvarS P at_ 0 = (v, a2, e2)) (V A2 E2 : Int) (hV : V = v) (hA : A2 = a2) (hE : E2 = e2) :
    Calls Try.prog 75 #[.agg #[.slice A P.length c, .int .i64 T, .int .i64 0]] w fun e' w' => e' = .returned (.tuple #[.int .u64 V, .agg #[.slice A P.length c, .int .i64 A2, .int .i64 E2]]) ∧ Below w.heap.size w w' := by
  subst hV; subst hA; subst hE
  have := takeUvar_calls A P c at_ 0 0 T rfl hT w hp hl hat
  rw [hU] at this
  exact this

set_option maxRecDepth 100000 in
theorem takeBlob_calls (A : Option Addr) (P : List UInt8) (c at_ e : Nat) (n : Int) (E T : Int) (hE : E = e) (hT : T = at_) (w : World) (hp : RB w A c P) (hl : P.length ≤ 140737488355328) (hat : at_ ≤ P.length) (hn : n ≤ 9223372036854775807) :
    Calls Try.prog 76 #[.agg #[.slice A P.length c, .int .i64 T, .int .i64 E], .int .i64 n] w fun e' w' => ∃ A' c', e' = .returned (.tuple #[.slice A' (blobS P at_ e n).1.length c', .agg #[.slice A P.length c, .int .i64 (blobS P at_ e n).2.1, .int .i64 (blobS P at_ e n).2.2]]) ∧ NewB w w' (.slice A' (blobS P at_ e n).1.length c') (blobS P at_ e n).1 := by
  subst hE; subst hT
  have hB0 := two_boxes w (.cells #[.slice A P.length c, .int .i64 at_, .int .i64 e] 86) (.cells #[.slice none 0 0, .int .i64 0, .int .i64 0] 86)
  have HB := Lib.hid hB0
  have HP := Lib.hid (hp.new hB0)
  have HT := Lib.hid (Trio.fresh (w.alloc (.cells #[.slice A P.length c, .int .i64 at_, .int .i64 e] 86)) (w.heap.size + 1) (Array.size_push ..) (.slice none 0 0) (.int .i64 0) (.int .i64 0) 86)
  have HS := Lib.hid (Trio.fresh w w.heap.size rfl (.slice A P.length c) (.int .i64 at_) (.int .i64 e) 86 |>.new (w' := (w.alloc (.cells #[.slice A P.length c, .int .i64 at_, .int .i64 e] 86)).alloc (.cells #[.slice none 0 0, .int .i64 0, .int .i64 0] 86)) (below_alloc1 (Below.refl _ _) (Nat.le_refl _) _))
  clear hB0
  by_cases he : e = 0
  · subst he
    rw [show ((0 : Nat) : Int) = 0 from rfl] at HB HP HT HS
    by_cases hneg : n < 0
    · have hU : blobS P at_ 0 n = ([], at_, 1) := by unfold WireMath.blobS; rw [if_neg (by simp), if_pos hneg]
      rw [hU]
      clear hU
      go_enter Try.func76, Try.ntmps76
      go_wp2_with (go_at_call 81; (with_reducible refine (fault_calls A P.length c _ _ _ _).mono ?_); rintro e1 w1 ⟨rfl, hb1⟩; have T1 := HT.out.new hb1; have z0 := T1.c0; have z1 := T1.c1; have z2 := T1.c2; have f0 := T1.fz 0; have f1 := T1.fz 1; have f2 := T1.fz 2)
      have B1 := HB.out.trans (hb1.mono HB.out.size)
      exact bodyPost_ret (results_rd rfl _ _ (w.heap.size + 1) _ _ _ rfl (T1.put _ _ _)) rfl ⟨none, 0, rfl, OB.nil _ _ _, ((B1.setCell (Nat.le_succ _) _).setCell (Nat.le_succ _) _).setCell (Nat.le_succ _) _⟩
    · obtain ⟨m, rfl⟩ := Int.eq_ofNat_of_zero_le (by omega : 0 ≤ n)
      have hg := grpLe P at_ hat
      have hgl := WireMath.grpL_lt (P.drop at_)
      have hz := WireMath.grpTo_zero (P.drop at_) 0 0
      have hU : blobS P at_ 0 m = if (grpL (P.drop at_)).2 = 0 then ([], at_, 3) else if (m : Int) < (grpL (P.drop at_)).1 then ([], at_, 2) else
        if P.length - at_ - (grpL (P.drop at_)).2 < (grpL (P.drop at_)).1 then ([], at_, 3) else
        ((P.drop (at_ + (grpL (P.drop at_)).2)).take (grpL (P.drop at_)).1, at_ + (grpL (P.drop at_)).2 + (grpL (P.drop at_)).1, 0) := by
        unfold WireMath.blobS; rw [if_neg (by simp), if_neg hneg]
      have hV : uvarS P at_ 0 = ((grpL (P.drop at_)).1, at_ + (grpL (P.drop at_)).2, if (grpL (P.drop at_)).2 = 0 then 3 else 0) := by unfold WireMath.uvarS; rw [if_neg (by simp)]
      replace hz : (grpL (P.drop at_)).2 = 0 → (grpL (P.drop at_)).1 = 0 := hz
      generalize grpL (P.drop at_) = g at *
      have hwm : IntKind.u64.wrap (m : Int) = m := u64_nat m (by omega)
      by_cases hn0 : g.2 = 0
      · rw [hU, if_pos hn0]
        have hV2 : uvarS P at_ 0 = (0, at_, 3) := by rw [hV, if_pos hn0, hz hn0, hn0]; rfl
        have HV := Lib.hid hV2
        clear hU hneg hV hV2 hz hn0
        have h3 := Lib.hid (show (3 : Int) = ((3 : Nat) : Int) from rfl)
        have h0 := Lib.hid (show (0 : Int) = ((0 : Nat) : Int) from rfl)
        go_enter Try.func76, Try.ntmps76
        go_wp2_with (first
          | (go_at_call 75; (with_reducible refine (takeUvarN A P c at_ _ rfl _ HP.out hl hat 0 at_ 3 HV.out 0 at_ 3 h0.out rfl h3.out).mono ?_); rintro e1 w1 ⟨rfl, hb1⟩; have S1 := HS.out.new (hb1.alloc hb1.size (.cells #[.slice A P.length c, .int .i64 at_, .int .i64 3] 86)); have x0 := S1.c0; have x1 := S1.c1; have x2 := S1.c2)
          | (go_at_call 81; (with_reducible refine (fault_calls A P.length c _ _ _ _).mono ?_); rintro e2 w2 ⟨rfl, hb2⟩; have T1 := (HT.out.new (hb1.alloc hb1.size (.cells #[.slice A P.length c, .int .i64 at_, .int .i64 3] 86))).new hb2; have z0 := T1.c0; have z1 := T1.c1; have z2 := T1.c2; have f0 := T1.fz 0; have f1 := T1.fz 1; have f2 := T1.fz 2))
        have B1 := below_then (below_then HB.out (hb1.alloc hb1.size (.cells #[.slice A P.length c, .int .i64 at_, .int .i64 3] 86))) hb2
        exact bodyPost_ret (results_rd rfl _ _ (w.heap.size + 1) _ _ _ rfl (T1.put _ _ _)) rfl ⟨none, 0, rfl, OB.nil _ _ _, ((B1.setCell (Nat.le_succ _) _).setCell (Nat.le_succ _) _).setCell (Nat.le_succ _) _⟩
      · rw [if_neg hn0] at hU hV
        have hx64 : g.1 ≤ 18446744073709551615 := by omega
        obtain ⟨x, y⟩ := g
        simp only at hU hV hg hx64 hn0
        clear hgl hz
        rw [hU]
        have HVU := Lib.hid hV
        clear hV hU hneg hn0
        have h0 := Lib.hid (show (0 : Int) = ((0 : Nat) : Int) from rfl)
        have hyc := Lib.hid (show (at_ : Int) + y = ((at_ + y : Nat) : Int) from rfl)
        have hw1 : IntKind.i64.wrap ((P.length : Int) - ((at_ : Int) + y)) = (P.length : Int) - ((at_ : Int) + y) := IntWalk.i64_in _ (by omega)
        by_cases hlong : m < x
        · rw [if_pos (by omega)]
          clear hw1
          go_enter Try.func76, Try.ntmps76
          go_wp2_with (first
            | (go_at_call 75; (with_reducible refine (takeUvarN A P c at_ _ rfl _ HP.out hl hat x (at_ + y) 0 HVU.out x (at_ + y) 0 rfl hyc.out h0.out).mono ?_); rintro e1 w1 ⟨rfl, hb1⟩; have S1 := HS.out.new (hb1.alloc hb1.size (.cells #[.slice A P.length c, .int .i64 (at_ + y), .int .i64 0] 86)); have x0 := S1.c0; have x1 := S1.c1; have x2 := S1.c2)
            | (go_at_call 81; (with_reducible refine (fault_calls A P.length c _ _ _ _).mono ?_); rintro e2 w2 ⟨rfl, hb2⟩; have T1 := (HT.out.new (hb1.alloc hb1.size (.cells #[.slice A P.length c, .int .i64 (at_ + y), .int .i64 0] 86))).new hb2; have z0 := T1.c0; have z1 := T1.c1; have z2 := T1.c2; have f0 := T1.fz 0; have f1 := T1.fz 1; have f2 := T1.fz 2))
          have B1 := below_then (below_then HB.out (hb1.alloc hb1.size (.cells #[.slice A P.length c, .int .i64 (at_ + y), .int .i64 0] 86))) hb2
          exact bodyPost_ret (results_rd rfl _ _ (w.heap.size + 1) _ _ _ rfl (T1.put _ _ _)) rfl ⟨none, 0, rfl, OB.nil _ _ _, ((B1.setCell (Nat.le_succ _) _).setCell (Nat.le_succ _) _).setCell (Nat.le_succ _) _⟩
        · rw [if_neg (by omega)]
          have hw3 : IntKind.u64.wrap ((P.length : Int) - ((at_ : Int) + y)) = (P.length : Int) - ((at_ : Int) + y) := IntWalk.u64_in _ (by omega)
          by_cases hs : P.length - at_ - y < x
          · rw [if_pos hs]
            have hsb : decide ((P.length : Int) - ((at_ : Int) + y) < x) = true := by rw [decide_eq_true_iff]; omega
            clear hs
            go_enter Try.func76, Try.ntmps76
            go_wp2_with (first
              | (go_at_call 75; (with_reducible refine (takeUvarN A P c at_ _ rfl _ HP.out hl hat x (at_ + y) 0 HVU.out x (at_ + y) 0 rfl hyc.out h0.out).mono ?_); rintro e1 w1 ⟨rfl, hb1⟩; have S1 := HS.out.new (hb1.alloc hb1.size (.cells #[.slice A P.length c, .int .i64 (at_ + y), .int .i64 0] 86)); have x0 := S1.c0; have x1 := S1.c1; have x2 := S1.c2)
              | (go_at_call 81; (with_reducible refine (fault_calls A P.length c _ _ _ _).mono ?_); rintro e2 w2 ⟨rfl, hb2⟩; have T1 := (HT.out.new (hb1.alloc hb1.size (.cells #[.slice A P.length c, .int .i64 (at_ + y), .int .i64 0] 86))).new hb2; have z0 := T1.c0; have z1 := T1.c1; have z2 := T1.c2; have f0 := T1.fz 0; have f1 := T1.fz 1; have f2 := T1.fz 2))
            have B1 := below_then (below_then HB.out (hb1.alloc hb1.size (.cells #[.slice A P.length c, .int .i64 (at_ + y), .int .i64 0] 86))) hb2
            exact bodyPost_ret (results_rd rfl _ _ (w.heap.size + 1) _ _ _ rfl (T1.put _ _ _)) rfl ⟨none, 0, rfl, OB.nil _ _ _, ((B1.setCell (Nat.le_succ _) _).setCell (Nat.le_succ _) _).setCell (Nat.le_succ _) _⟩
          · rw [if_neg hs]
            have hsb : decide ((P.length : Int) - ((at_ : Int) + y) < x) = false := by rw [decide_eq_false_iff_not]; omega
            have hwv : IntKind.i64.wrap (x : Int) = x := IntWalk.i64_in _ (by omega)
            have hraw : rawS P (at_ + y) 0 x = ((P.drop (at_ + y)).take x, at_ + y + x, 0) := by unfold WireMath.rawS; rw [if_neg (by simp), if_neg (by omega), if_neg (by omega)]; simp
            have hcall := fun w' (h : RB w' A c P) => takeRaw_calls A P c (at_ + y) 0 x 0 (at_ + y) rfl hyc.out w' h hl hg (by omega)
            rw [hraw] at hcall
            have HC := Lib.hid hcall
            clear hs hcall hraw
            generalize (P.drop (at_ + y)).take x = q at *
            go_enter Try.func76, Try.ntmps76
            go_wp2_with (first
              | (go_at_call 75; (with_reducible refine (takeUvarN A P c at_ _ rfl _ HP.out hl hat x (at_ + y) 0 HVU.out x (at_ + y) 0 rfl hyc.out h0.out).mono ?_); rintro e1 w1 ⟨rfl, hb1⟩; have S1 := HS.out.new (hb1.alloc hb1.size (.cells #[.slice A P.length c, .int .i64 (at_ + y), .int .i64 0] 86)); have x0 := S1.c0; have x1 := S1.c1; have x2 := S1.c2)
              | (go_at_call 56; (with_reducible refine (HC.out _ ((HP.out.new hb1).alloc _)).mono ?_); rintro e2 w2 ⟨A2, c2, rfl, hn2⟩; have T1 := (HT.out.new (hb1.alloc hb1.size (.cells #[.slice A P.length c, .int .i64 (at_ + y), .int .i64 0] 86))).new hn2.below; have z0 := T1.c0; have z1 := T1.c1; have z2 := T1.c2; have f0 := T1.fz 0; have f1 := T1.fz 1; have f2 := T1.fz 2))
            have B1 := below_then HB.out (hb1.alloc hb1.size (.cells #[.slice A P.length c, .int .i64 (at_ + y), .int .i64 0] 86))
            have hz : ((w.alloc (.cells #[.slice A P.length c, .int .i64 at_, .int .i64 0] 86)).alloc (.cells #[.slice none 0 0, .int .i64 0, .int .i64 0] 86)).heap.size = w.heap.size + 2 := (Array.size_push ..).trans (congrArg (· + 1) (Array.size_push ..))
            have hz2 : w.heap.size + 2 ≤ (w1.alloc (.cells #[.slice A P.length c, .int .i64 (at_ + y), .int .i64 0] 86)).heap.size := by rw [← hz]; exact (hb1.alloc hb1.size _).size
            have ho := hn2.own.mono hz2
            have B2 := below_then B1 hn2.below
            exact bodyPost_ret (results_rd rfl _ _ (w.heap.size + 1) _ _ _ rfl (T1.put _ _ _)) rfl ⟨A2, c2, rfl, (((ho.low (by omega)).low (by omega)).low (by omega)).mono (by omega), ((B2.setCell (Nat.le_succ _) _).setCell (Nat.le_succ _) _).setCell (Nat.le_succ _) _⟩
  · have hb : ((e : Int) != 0) = true := by rw [bne_iff_ne]; omega
    have hU : blobS P at_ e n = ([], at_, e) := by unfold WireMath.blobS; rw [if_pos he]
    rw [hU]
    clear hU he
    go_enter Try.func76, Try.ntmps76
    go_wp2
    go_region
    all_goals go_wp2
    have B1 := two_boxes w (.cells #[.slice A P.length c, .int .i64 at_, .int .i64 e] 86) (.cells #[.slice A P.length c, .int .i64 at_, .int .i64 e] 86)
    exact bodyPost_ret (results_rd rfl _ _ (w.heap.size + 1) _ _ _ rfl (Trio.fresh (w.alloc (.cells #[.slice A P.length c, .int .i64 at_, .int .i64 e] 86)) (w.heap.size + 1) (Array.size_push ..) _ _ _ _).drew) rfl ⟨none, 0, rfl, OB.nil _ _ _, B1.drew⟩
end Go.Proofs.Ytlcbjjgmkllceaa

/- The reference of layer 1: Done; Uvar, Blob. -/
namespace Go.Proofs.Ytlcbjjgmkllceaa
open Go.RowKit
open WireMath (numS beN rawS blobS uvarS grpL grpTo uvarL uvarF grp lst)

set_option maxRecDepth 100000 in
theorem refdone_calls (A : Option Addr) (P : List UInt8) (n c at_ e : Nat) (E T : Int) (hE : E = e) (hT : T = at_) (w : World) (hn : n = P.length) (hat : at_ ≤ P.length) :
    Calls Try.prog 77 #[.agg #[.slice A n c, .int .i64 T, .int .i64 E]] w fun e' w' => e' = .returned (.int .i64 (doneE P at_ e)) ∧ Below w.heap.size w w' := by
  subst hE; subst hT; subst hn
  have HF := Lib.hid (below_alloc1 (Below.refl w.heap.size w) (Nat.le_refl _) (.cells #[.slice A P.length c, .int .i64 at_, .int .i64 e] 86))
  by_cases he : e = 0
  · subst he
    rw [show ((0 : Nat) : Int) = 0 from rfl] at HF
    by_cases hd : at_ = P.length
    · have hfin : doneE P at_ 0 = 0 := by unfold doneE; rw [if_pos (.inr hd)]
      have hb : ¬ at_ < P.length := by omega
      rw [hfin]
      clear hfin hd
      go_enter Try.func77, Try.ntmps77
      go_wp2
      go_ret
      exact ⟨rfl, HF.out⟩
    · have hfin : doneE P at_ 0 = 3 := by simp [doneE, hd]
      have hb : at_ < P.length := by omega
      rw [hfin]
      clear hfin hd
      go_enter Try.func77, Try.ntmps77
      go_wp2
      go_ret
      exact ⟨rfl, HF.out⟩
  · have hb : ((e : Int) == 0) = false := by rw [beq_eq_false_iff_ne]; omega
    have hfin : doneE P at_ e = e := by simp [doneE, he]
    rw [hfin]
    clear hfin he
    go_enter Try.func77, Try.ntmps77
    go_wp2
    go_ret
    exact ⟨rfl, HF.out⟩

theorem grp_eq (x : Nat) : (x : Int) % 128 + 128 = uB (grp x) := by
  unfold WireMath.grp; rw [uB_ofNat]; omega
set_option maxRecDepth 100000 in
theorem refuvar_calls (v : Nat) (V : Int) (hV : V = v) (w : World) (hv : v ≤ 18446744073709551615) :
    Calls Try.prog 65 #[.int .u64 V] w fun e w' => ∃ A' c', e = .returned (.slice A' (uvarL v).length c') ∧ NewB w w' (.slice A' (uvarL v).length c') (uvarL v) := by
  subst hV
  have hul := WireMath.uvarL_length v
  go_enter Try.func65, Try.ntmps65
  go_wp2
  go_loopw [0, 3] (fun i l wr => ∃ (x f : Nat) (pre : List UInt8), x ≤ v ∧ Hid (x < 128 ^ (f + 1)) ∧ i = .int .u64 x ∧ Hid (pre ++ uvarF f x = uvarL v) ∧ OB wr w.heap.size 5 l pre ∧ Below w.heap.size w wr) (fun i _ _ => (intOf i).toNat)
  case atStart => exact ⟨v, 9, [], Nat.le_refl _, Lib.hid (by simp; omega), rfl, Lib.hid rfl, OB.nil _ _ _, Below.refl _ _⟩
  case round =>
    obtain ⟨x, f, pre, hx, hxf, rfl, HP, HO, HB⟩ := hrel
    obtain ⟨A0, c0, rfl, _⟩ := HO.form
    have hll : pre.length + 1 ≤ 140737488355328 := by
      have h1 := congrArg List.length HP.out
      have h3 := WireMath.uvarF_pos f x
      simp only [List.length_append] at h1
      omega
    have hBs := HB.size
    by_cases hlt : x < 128
    · have hone : uvarF f x = [lst x] := by cases f <;> simp [uvarF, hlt]
      have hb : (x : Int) = uB (lst x) := by unfold WireMath.lst; rw [uB_ofNat]; omega
      have HX := Lib.hid hb
      have HON := Lib.hid hone
      clear hb hone
      go_wp2_with (rw [HX.out]; refine wp_appendB_at bt rfl (.tmp 15) (.tmp 18) rfl w.heap.size (.slice A0 pre.length c0) pre rfl (HO.alloc _) _ [lst x] 1 1 rfl rfl (one_byte wr _) (by simpa using hll) (by simp; omega) (pre ++ [lst x]) rfl fun A3 c3 w2 ho2 hg2 _ => ?_)
      go_ret
      have HE : pre ++ [lst x] = uvarL v := by have := HP.out; rw [HON.out] at this; exact this
      have hlen : (uvarL v).length = pre.length + 1 := by rw [← HE]; simp
      have hBG := below_grown (HB.alloc hBs (.cells #[.int .u8 (uB (lst x))] 5)) (HO.alloc _) hg2 (Nat.le_trans hBs (by simp)) (Nat.le_refl _)
      rw [HE] at ho2
      exact ⟨A3, c3, by rw [hlen]; rfl, ho2, hBG⟩
    · cases f with
      | zero => have := hxf.out; simp at this; omega
      | succ f =>
        have hmore : uvarF (f + 1) x = grp x :: uvarF f (x / 128) := by simp [uvarF, hlt]
        have hb := grp_eq x
        have HM := Lib.hid hmore
        clear hmore
        go_wp2_with (refine wp_appendB_at bt rfl (.tmp 6) (.tmp 11) rfl w.heap.size (.slice A0 pre.length c0) pre rfl (HO.alloc _) _ [grp x] 1 1 rfl rfl (one_byte wr _) (by simpa using hll) (by simp; omega) (pre ++ [grp x]) rfl fun A3 c3 w2 ho2 hg2 _ => ?_)
        go_roundw
        case rel => exact ⟨x / 128, f, pre ++ [grp x], by omega, Lib.hid (by have := hxf.out; rw [Nat.pow_succ] at this; omega), (by first | rfl | go_num), Lib.hid (by rw [← HP.out, HM.out]; simp), by simpa using ho2, below_grown (HB.alloc hBs (.cells #[.int .u8 (uB (grp x))] 5)) (HO.alloc _) hg2 (Nat.le_trans hBs (by simp)) (Nat.le_refl _)⟩
        case measure => simp [intOf] <;> omega
set_option maxRecDepth 100000 in
theorem refblob_calls (A : Option Addr) (q : List UInt8) (n c : Nat) (w : World) (hp : RB w A c q) (hn : n = q.length) (hl : q.length ≤ 140737488355328) :
    Calls Try.prog 66 #[.slice A n c] w fun e w' => ∃ A' c', e = .returned (.slice A' ((uvarL q.length).length + q.length) c') ∧ NewB w w' (.slice A' ((uvarL q.length).length + q.length) c') (uvarL q.length ++ q) := by
  subst hn
  have hul := WireMath.uvarL_length q.length
  go_enter Try.func66, Try.ntmps66
  go_wp2_with (first
    | (go_at_call 65; (with_reducible refine (refuvar_calls q.length _ rfl _ (by omega)).mono ?_); rintro e1 w1 ⟨A1, c1, rfl, hn1⟩)
    | (go_at_call 43; (with_reducible refine (joinN A1 A (uvarL q.length) q (uvarL q.length ++ q) (uvarL q.length).length q.length ((uvarL q.length).length + q.length) c1 c _ hn1.own.rb (hp.new hn1.below) rfl rfl rfl rfl (by omega)).mono ?_); rintro e2 w2 ⟨A2, c2, rfl, hn2⟩))
  go_ret
  exact ⟨A2, c2, rfl, hn2.own.mono hn1.below.size, below_then hn1.below hn2.below⟩
end Go.Proofs.Ytlcbjjgmkllceaa

/- A writer's calls, over what it owns. -/
namespace Go.Proofs.Ytlcbjjgmkllceaa
open Go.RowKit
open WireMath (numS beN rawS blobS uvarS grpL grpTo uvarL uvarF grp lst wideL byteAt)

theorem u8F {w : World} {F : Nat → Prop} {b : Nat} {p : List UInt8} (h : WrF w F b p) (q : List UInt8) (v : Nat) (V : Int) (hV : V = v) (hq : p ++ [UInt8.ofNat v] = q) (hv : v ≤ 255) (hl : p.length + 8 ≤ 140737488355328) :
    Calls Try.prog 67 #[.pointer (some ⟨b, 0, none⟩), .int .u8 V] w fun e w' => ∃ F', e = .returned (.tuple #[]) ∧ WrF w' F' b q ∧ Step w w' F F' := h.call fun row hw => u8N 0 b row p q v V hV hq w hw hv hl
theorem u16F {w : World} {F : Nat → Prop} {b : Nat} {p : List UInt8} (h : WrF w F b p) (q : List UInt8) (v : Nat) (V : Int) (hV : V = v) (hq : p ++ wideL v 2 = q) (hv : v ≤ 65535) (hl : p.length + 8 ≤ 140737488355328) :
    Calls Try.prog 32 #[.pointer (some ⟨b, 0, none⟩), .int .u16 V] w fun e w' => ∃ F', e = .returned (.tuple #[]) ∧ WrF w' F' b q ∧ Step w w' F F' := h.call fun row hw => u16N 0 b row p q v V hV hq w hw hv hl
theorem u32F {w : World} {F : Nat → Prop} {b : Nat} {p : List UInt8} (h : WrF w F b p) (q : List UInt8) (v : Nat) (V : Int) (hV : V = v) (hq : p ++ wideL v 4 = q) (hv : v ≤ 4294967295) (hl : p.length + 8 ≤ 140737488355328) :
    Calls Try.prog 68 #[.pointer (some ⟨b, 0, none⟩), .int .u32 V] w fun e w' => ∃ F', e = .returned (.tuple #[]) ∧ WrF w' F' b q ∧ Step w w' F F' := h.call fun row hw => u32N 0 b row p q v V hV hq w hw hv hl
theorem u64F {w : World} {F : Nat → Prop} {b : Nat} {p : List UInt8} (h : WrF w F b p) (q : List UInt8) (v : Nat) (V : Int) (hV : V = v) (hq : p ++ wideL v 8 = q) (hv : v ≤ 18446744073709551615) (hl : p.length + 8 ≤ 140737488355328) :
    Calls Try.prog 69 #[.pointer (some ⟨b, 0, none⟩), .int .u64 V] w fun e w' => ∃ F', e = .returned (.tuple #[]) ∧ WrF w' F' b q ∧ Step w w' F F' := h.call fun row hw => u64N 0 b row p q v V hV hq w hw hv hl
theorem uvarFF {w : World} {F : Nat → Prop} {b : Nat} {p : List UInt8} (h : WrF w F b p) (q : List UInt8) (v : Nat) (V : Int) (hV : V = v) (hq : p ++ uvarL v = q) (hv : v ≤ 18446744073709551615) (hl : p.length + 10 ≤ 140737488355328) :
    Calls Try.prog 31 #[.pointer (some ⟨b, 0, none⟩), .int .u64 V] w fun e w' => ∃ F', e = .returned (.tuple #[]) ∧ WrF w' F' b q ∧ Step w w' F F' := h.call fun row hw => uvarN 0 b row p q v V hV hq w hw hv hl
theorem rawF {w : World} {F : Nat → Prop} {b : Nat} {p : List UInt8} (h : WrF w F b p) (A : Option Addr) (q r : List UInt8) (n c : Nat) (hr : p ++ q = r) (hq : RB w A c q) (hn : n = q.length) (hl : p.length + q.length ≤ 140737488355328) :
    Calls Try.prog 70 #[.pointer (some ⟨b, 0, none⟩), .slice A n c] w fun e w' => ∃ F', e = .returned (.tuple #[]) ∧ WrF w' F' b r ∧ Step w w' F F' := h.call fun row hw => rawN 0 b row p A q r n c hr w hw hq hn hl
theorem lenF {w : World} {F : Nat → Prop} {b : Nat} {p : List UInt8} (h : WrF w F b p) (n : Int) (hn : n = p.length) :
    Calls Try.prog 34 #[.pointer (some ⟨b, 0, none⟩)] w fun e w' => e = .returned (.int .i64 n) ∧ w = w' := by
  obtain ⟨row, hw, _⟩ := h.out
  exact lenN 0 b row p n hn w hw
theorem bytesF {w : World} {F : Nat → Prop} {b : Nat} {p : List UInt8} (h : WrF w F b p) (n : Nat) (hn : n = p.length) (hl : p.length ≤ 140737488355328) :
    Calls Try.prog 33 #[.pointer (some ⟨b, 0, none⟩)] w fun e w' => ∃ A' c', e = .returned (.slice A' n c') ∧ NewB w w' (.slice A' n c') p := by
  obtain ⟨row, hw, _⟩ := h.out
  exact bytesN 0 b row p n hn w hw hl
theorem blobF {w : World} {F : Nat → Prop} {b : Nat} {p : List UInt8} (h : WrF w F b p) (A : Option Addr) (q r : List UInt8) (n c : Nat) (hr : p ++ (uvarL q.length ++ q) = r) (hq : RB w A c q) (hf : Free F A q) (hn : n = q.length) (hl : p.length + q.length + 10 ≤ 140737488355328) :
    Calls Try.prog 71 #[.pointer (some ⟨b, 0, none⟩), .slice A n c] w fun e w' => ∃ F', e = .returned (.tuple #[]) ∧ WrF w' F' b r ∧ Step w w' F F' := by
  subst hn
  have hul := WireMath.uvarL_length q.length
  have HR := Lib.hid (show (p ++ uvarL q.length) ++ q = r by rw [← hr, List.append_assoc])
  clear hr
  go_enter Try.func71, Try.ntmps71
  go_wp2_with (first
    | (go_at_call 31; (with_reducible refine (uvarFF h (p ++ uvarL q.length) q.length _ rfl rfl (by omega) (by omega)).mono ?_); rintro e1 w1 ⟨F1, rfl, hw1, hs1⟩)
    | (go_at_call 70; (with_reducible refine (rawF hw1 A q r q.length c HR.out (hq.step hs1 hf) rfl (by rw [List.length_append]; omega)).mono ?_); rintro e2 w2 ⟨F2, rfl, hw2, hs2⟩))
  go_end0
  exact ⟨F2, rfl, hw2, hs1.trans hs2⟩

theorem wide1F (v : Nat) : wideL (v % 256) 1 = [UInt8.ofNat (v % 256)] := by simp [WireMath.wideL, WireMath.byteAt]
end Go.Proofs.Ytlcbjjgmkllceaa
