/- Footprints: which blocks a call may change, and what stands beside them as it did. -/
import Derived.Test.YtelecdncdaepnaaWireMore
namespace Go.Proofs.Ytelecdncdaepnaa
open Go.RowKit

/-- a call that may change the blocks of F alone, and lay new ones; F' is what it leaves to its owner -/
structure Step (w w' : World) (F F' : Nat → Prop) : Prop where
  os : w'.os = w.os
  tape : w'.tape = w.tape
  output : w'.output = w.output
  size : w.heap.size ≤ w'.heap.size
  block : ∀ k, k < w.heap.size → ¬ F k → w'.heap[k]? = w.heap[k]?
  foot : ∀ k, F' k → F k ∨ w.heap.size ≤ k
theorem Step.refl (w : World) (F : Nat → Prop) : Step w w F F := ⟨rfl, rfl, rfl, Nat.le_refl _, fun _ _ _ => rfl, fun _ h => .inl h⟩
theorem Step.trans {a b c : World} {F G H : Nat → Prop} (h : Step a b F G) (k : Step b c G H) : Step a c F H := by
  refine ⟨k.os.trans h.os, k.tape.trans h.tape, k.output.trans h.output, Nat.le_trans h.size k.size, fun j h1 h2 => ?_, fun j hj => ?_⟩
  · rw [k.block j (Nat.lt_of_lt_of_le h1 h.size) (fun hg => ?_), h.block j h1 h2]
    rcases h.foot j hg with e | e
    · exact h2 e
    · omega
  · rcases k.foot j hj with e | e
    · exact h.foot j e
    · exact .inr (Nat.le_trans h.size e)
theorem Step.new {a b c : World} {F G : Nat → Prop} (h : Step a b F G) (k : Below b.heap.size b c) : Step a c F G :=
  ⟨k.os.trans h.os, k.tape.trans h.tape, k.output.trans h.output, Nat.le_trans h.size k.size, fun j h1 h2 => (k.block j (Nat.lt_of_lt_of_le h1 h.size)).trans (h.block j h1 h2), h.foot⟩
theorem Step.ahead {a b c : World} {F G : Nat → Prop} (k : Below a.heap.size a b) (h : Step b c F G) : Step a c F G :=
  ⟨h.os.trans k.os, h.tape.trans k.tape, h.output.trans k.output, Nat.le_trans k.size h.size, fun j h1 h2 => (h.block j (Nat.lt_of_lt_of_le h1 k.size) h2).trans (k.block j h1), fun j hj => (h.foot j hj).imp id fun e => Nat.le_trans k.size e⟩
theorem Step.below {w w' : World} {F G : Nat → Prop} {B : Nat} (h : Step w w' F G) (hB : B ≤ w.heap.size) (hF : ∀ k, F k → B ≤ k) : Below B w w' :=
  ⟨h.os, h.tape, h.output, h.size, fun k hk => h.block k (by omega) (fun e => by have := hF k e; omega)⟩
theorem Step.mono {w w' : World} {F F' G G' : Nat → Prop} (h : Step w w' F F') (h1 : ∀ k, F k → G k) (h2 : ∀ k, G' k → G k ∨ w.heap.size ≤ k) : Step w w' G G' :=
  ⟨h.os, h.tape, h.output, h.size, fun k hk hg => h.block k hk (fun e => hg (h1 k e)), h2⟩
theorem Step.of_below {w w' : World} (h : Below w.heap.size w w') (F : Nat → Prop) : Step w w' F F := ⟨h.os, h.tape, h.output, h.size, fun k hk _ => h.block k hk, fun _ e => .inl e⟩
theorem Step.of_grown {w w' : World} {F : Nat → Prop} {b : Nat} (h : w.grownBy w' (some b)) (hb : F b) : Step w w' F F :=
  ⟨h.os, h.tape, h.output, h.size, fun k hk hf => h.block k hk (fun e => hf (by rw [Option.some.inj e]; exact hb)), fun _ e => .inl e⟩
theorem Step.lo {w w' : World} {F F' : Nat → Prop} {B : Nat} (h : Step w w' F F') (hF : ∀ k, F k → B ≤ k) (hB : B ≤ w.heap.size) : ∀ k, F' k → B ≤ k := fun k hk => (h.foot k hk).elim (hF k) fun e => Nat.le_trans hB e

/-- two sets of blocks that share none -/
def Disj (F G : Nat → Prop) : Prop := ∀ k, F k → ¬ G k
theorem Disj.symm {F G : Nat → Prop} (h : Disj F G) : Disj G F := fun k hg hf => h k hf hg
theorem Disj.step {w w' : World} {F G G' : Nat → Prop} (h : Disj F G) (hs : Step w w' G G') (hF : ∀ k, F k → k < w.heap.size) : Disj F G' := fun k hf hg => (hs.foot k hg).elim (h k hf) fun e => by have := hF k hf; omega

/-- the bytes lie outside F -/
def Free (F : Nat → Prop) (A : Option Addr) (p : List UInt8) : Prop := ∀ a, A = some a → 0 < p.length → ¬ F a.block
theorem RB.step {w w' : World} {F F' : Nat → Prop} {A : Option Addr} {c : Nat} {p : List UInt8} (h : RB w A c p) (hs : Step w w' F F') (hf : Free F A p) : RB w' A c p :=
  h.keep fun a e hp => hs.block _ (h.old.out a e hp) (hf a e hp)
theorem Free.step {w w' : World} {F F' : Nat → Prop} {A : Option Addr} {c : Nat} {p : List UInt8} (hf : Free F A p) (h : RB w A c p) (hs : Step w w' F F') : Free F' A p := fun a e hp hk => (hs.foot _ hk).elim (hf a e hp) fun e2 => by have := h.old.out a e hp; omega
theorem Free.of_old {B : Nat} {F : Nat → Prop} {A : Option Addr} {p : List UInt8} (h : Old B A p) (hF : ∀ k, F k → B ≤ k) : Free F A p := fun a e hp hk => by have := h.out a e hp; have := hF _ hk; omega
theorem Free.of_new {B : Nat} {F : Nat → Prop} {A : Option Addr} {p : List UInt8} (h : ∀ a, A = some a → 0 < p.length → B ≤ a.block) (hF : ∀ k, F k → k < B) : Free F A p := fun a e hp hk => by have := h a e hp; have := hF _ hk; omega

/-- a writer that owns the blocks F -/
structure WrF (w : World) (F : Nat → Prop) (b : Nat) (p : List UInt8) : Prop where
  out : ∃ row, Wr w 0 b row p ∧ ∀ k, F k ↔ (k = b ∨ row = some k)
theorem WrF.lt {w : World} {F : Nat → Prop} {b : Nat} {p : List UInt8} (h : WrF w F b p) : ∀ k, F k → k < w.heap.size := by
  obtain ⟨row, hw, hF⟩ := h.out
  intro k hk
  rcases (hF k).1 hk with e | e
  · rw [e]; exact hw.bLt
  · exact (hw.rowLo k e).2
theorem Wr.zero {w : World} {base b : Nat} {row : Option Nat} {p : List UInt8} (h : Wr w base b row p) : Wr w 0 b row p := by
  obtain ⟨v, c1, c2, c3⟩ := h.cell
  exact ⟨⟨v, c1, c2, ⟨(c3.mono (Nat.zero_le _)).out⟩⟩, h.fz, h.ne, Nat.zero_le _⟩
theorem WrF.fresh (w : World) (k : Nat) (hk : w.heap.size = k) (t : TypeId) : WrF (w.alloc (.cells #[.slice none 0 0] t)) (· = k) k [] := by
  subst hk
  exact ⟨none, Wr.fresh w 0 (Nat.zero_le _) t, fun k => by simp⟩
theorem WrF.call {P : Program} {f : Nat} {args : Array Value} {w : World} {F : Nat → Prop} {b : Nat} {p q : List UInt8} {E : Ending} (h : WrF w F b p)
    (hc : ∀ row, Wr w 0 b row p → Calls P f args w (fun e w' => ∃ row', e = E ∧ Wr w' 0 b row' q ∧ WStep w w' b row row')) :
    Calls P f args w (fun e w' => ∃ F', e = E ∧ WrF w' F' b q ∧ Step w w' F F') := by
  obtain ⟨row, hw, hF⟩ := h.out
  refine (hc row hw).mono fun e w' ⟨row', he, hw', hs⟩ => ⟨fun k => k = b ∨ row' = some k, he, ⟨row', hw', fun _ => Iff.rfl⟩, ⟨hs.os, hs.tape, hs.output, hs.size, fun k hk hf => hs.block k hk (fun e => hf ((hF k).2 (.inl e))) (fun e => hf ((hF k).2 (.inr e.symm))), ?_⟩⟩
  rintro k (e | e)
  · exact .inl ((hF k).2 (.inl e))
  · rcases hs.row' with e2 | ⟨i, e2, hi⟩
    · exact .inl ((hF k).2 (.inr (e2.symm.trans e)))
    · rw [e2] at e
      have := Option.some.inj e
      exact .inr (by omega)
theorem WrF.step {w w' : World} {F G G' : Nat → Prop} {b : Nat} {p : List UInt8} (h : WrF w F b p) (hs : Step w w' G G') (hd : Disj F G) : WrF w' F b p := by
  obtain ⟨row, hw, hF⟩ := h.out
  have hbF : F b := (hF b).2 (.inl rfl)
  obtain ⟨v, c1, c2, c3⟩ := hw.cell
  have hb : w'.heap[b]? = w.heap[b]? := hs.block b hw.bLt (hd b hbF)
  refine ⟨row, ⟨⟨v, (World.cell?_of_block (a := ⟨b, 0, none⟩) hb).trans c1, c2, ⟨c3.out.1, ?_⟩⟩, (World.frozen?_of_block (a := ⟨b, 0, none⟩) hb).trans hw.fz, hw.ne, hw.lo⟩, hF⟩
  rcases c3.out.2 with h5 | ⟨g, cap, cur, rfl, hg, hh, r5⟩
  · exact .inl h5
  · have e : row = some g := c2.symm
    exact .inr ⟨g, cap, cur, rfl, hg, (hs.block g (Array.getElem?_eq_some_iff.1 hh).1 (hd g ((hF g).2 (.inr e)))).trans hh, r5⟩
theorem WrF.new {w w' : World} {F : Nat → Prop} {b : Nat} {p : List UInt8} (h : WrF w F b p) (hb : Below w.heap.size w w') : WrF w' F b p := by
  obtain ⟨row, hw, hF⟩ := h.out
  exact ⟨row, hw.new hb, hF⟩
theorem Rd.step {w w' : World} {F G G' : Nat → Prop} {b : Nat} {P : List UInt8} {at_ e : Nat} (h : Rd w F b P at_ e) (hs : Step w w' G G') (hd : Disj F G) : Rd w' F b P at_ e :=
  h.keep (hs.block b h.bLt (hd b h.lo)) fun k hk _ hlt => hs.block k hlt (hd k hk)
theorem Rd.stepOf {w w' : World} {F : Nat → Prop} {b : Nat} {P : List UInt8} {at_ e : Nat} (h : Rd w F b P at_ e) (hg : w.grownBy w' (some b)) : Step w w' F F := Step.of_grown hg h.lo
theorem belowA {w0 w : World} (h : Below w0.heap.size w0 w) (o : Obj) : Below w0.heap.size w0 (w.alloc o) := h.alloc h.size o
theorem belowS {w0 w : World} {g j : Nat} (h : Below w0.heap.size w0 w) (hg : w0.heap.size ≤ g) (v : Value) : Below w0.heap.size w0 (w.setCell ⟨g, j, none⟩ v) := h.setCell hg v
theorem asz (w : World) (o : Obj) : (w.alloc o).heap.size = w.heap.size + 1 := Array.size_push ..
theorem asz2 (w : World) (o p : Obj) : ((w.alloc o).alloc p).heap.size = w.heap.size + 1 + 1 := by rw [asz, asz]
theorem asz3 (w : World) (o p q : Obj) : (((w.alloc o).alloc p).alloc q).heap.size = w.heap.size + 1 + 1 + 1 := by rw [asz, asz, asz]
/-- three cells of a box are written -/
theorem put3_step (w : World) (g : Nat) (x y z : Value) : Step w (((w.setCell ⟨g, 0, none⟩ x).setCell ⟨g, 1, none⟩ y).setCell ⟨g, 2, none⟩ z) (· = g) (· = g) :=
  Step.of_grown (grown_trans (grown_trans (setCell_grown w g 0 x) (setCell_grown _ g 1 y)) (setCell_grown _ g 2 z)) rfl
end Go.Proofs.Ytelecdncdaepnaa
