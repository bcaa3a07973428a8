import Derived.Test.YtlcbjjgmkllceaaQBb
/- Facts that go along with the world. -/
namespace Go.Proofs.Ytlcbjjgmkllceaa
open Go.RowKit

/-- a fact about the world, and that it outlives a step of the kind R -/
structure Mv (R : World → World → Prop) (P : World → Prop) (w : World) : Prop where
  h : P w
  m : ∀ a b, R a b → P a → P b
theorem Mv.step {R : World → World → Prop} {P : World → Prop} {w w' : World} (h : Mv R P w) (r : R w w') : Mv R P w' := ⟨h.m _ _ r h.h, h.m⟩
/-- a call that may write one block of those that stand -/
def Wr1 (g : Nat) (a b : World) : Prop := Step a b (· = g) (· = g)
theorem Wr1.new {g : Nat} {a b : World} (h : Below a.heap.size a b) : Wr1 g a b := Step.of_below h _
theorem Wr1.row {g : Nat} {a b : World} (h : a.grownBy b (some g)) : Wr1 g a b := Step.of_grown h rfl
theorem Wr1.trans {g : Nat} {a b c : World} (h : Wr1 g a b) (k : Wr1 g b c) : Wr1 g a c := Step.trans h k
theorem Wr1.alloc (g : Nat) (a : World) (o : Obj) : Wr1 g a (a.alloc o) := Wr1.new (below_alloc1 (Below.refl _ _) (Nat.le_refl _) o)
theorem mvOB {g base e : Nat} {v : Value} {p : List UInt8} (hg : g < base) {w : World} (h : OB w base e v p) : Mv (Wr1 g) (fun a => OB a base e v p) w := by
  refine ⟨h, fun a b hs h => ⟨h.out.1, ?_⟩⟩
  rcases h.out.2 with h1 | ⟨k, cap, cur, e1, hb, hh, r⟩
  · exact .inl h1
  · exact .inr ⟨k, cap, cur, e1, hb, (hs.block k (Array.getElem?_eq_some_iff.1 hh).1 (by show ¬ k = g; omega)).trans hh, r⟩
theorem mvRB {g : Nat} {A : Option Addr} {c : Nat} {p : List UInt8} (hf : Free (· = g) A p) {w : World} (h : RB w A c p) : Mv (Wr1 g) (fun a => RB a A c p) w := ⟨h, fun _ _ hs h => h.step hs hf⟩
theorem mvB {w : World} {g : Nat} (hg : w.heap.size ≤ g) {a : World} (h : Below w.heap.size w a) (h2 : g < a.heap.size) : Mv (Wr1 g) (fun a => Below w.heap.size w a ∧ g < a.heap.size) a := by
  refine ⟨⟨h, h2⟩, ?_⟩
  rintro a b hs ⟨h1, h2⟩
  refine ⟨⟨hs.os.trans h1.os, hs.tape.trans h1.tape, hs.output.trans h1.output, Nat.le_trans h1.size hs.size, fun k hk => (hs.block k (Nat.lt_of_lt_of_le hk h1.size) (by show ¬ k = g; omega)).trans (h1.block k hk)⟩, Nat.lt_of_lt_of_le h2 hs.size⟩
theorem mvS {g n : Nat} {w : World} (h : n ≤ w.heap.size) : Mv (Wr1 g) (fun a => n ≤ a.heap.size) w := ⟨h, fun _ _ hs h => Nat.le_trans h hs.size⟩
/-- below hi all stays -/
theorem mv2S {h n : Nat} {w : World} (hn : n ≤ w.heap.size) : Mv (Below h) (fun a => n ≤ a.heap.size) w := ⟨hn, fun _ _ hs h => Nat.le_trans h hs.size⟩
theorem mv2B {w : World} {hi : Nat} (hw : w.heap.size ≤ hi) {a : World} (h : Below w.heap.size w a) : Mv (Below hi) (fun a => Below w.heap.size w a) a := ⟨h, fun a b hs h => ⟨hs.os.trans h.os, hs.tape.trans h.tape, hs.output.trans h.output, Nat.le_trans h.size hs.size, fun k hk => (hs.block k (by omega)).trans (h.block k hk)⟩⟩
end Go.Proofs.Ytlcbjjgmkllceaa
