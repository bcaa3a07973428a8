/- Words on writers: what stands behind a pointer to one, what a call changes. -/
import Derived.Test.YtelecdncdaepnaaMemWalk
import Derived.Test.YtelecdncdaepnaaWireMath
import Derived.Maps.AppendAt
namespace Go.Proofs.Ytelecdncdaepnaa
open Go.RowKit

/-- a writer at the head of block b: its bytes p stand in a row of their own -/
structure Wr (w : World) (base b : Nat) (row : Option Nat) (p : List UInt8) : Prop where
  cell : ∃ v, w.cell? ⟨b, 0, none⟩ = some v ∧ v.ownBlock = row ∧ OB w base 5 v p
  fz : w.frozen? ⟨b, 0, none⟩ = false
  ne : row ≠ some b
  lo : base ≤ b
/-- what a writer's call changes: its block, its row, new memory -/
structure WStep (w w' : World) (b : Nat) (row row' : Option Nat) : Prop where
  os : w'.os = w.os
  tape : w'.tape = w.tape
  output : w'.output = w.output
  size : w.heap.size ≤ w'.heap.size
  block : ∀ k, k < w.heap.size → k ≠ b → some k ≠ row → w'.heap[k]? = w.heap[k]?
  row' : row' = row ∨ ∃ k, row' = some k ∧ w.heap.size ≤ k
theorem WStep.refl (w : World) (b : Nat) (row : Option Nat) : WStep w w b row row := ⟨rfl, rfl, rfl, Nat.le_refl _, fun _ _ _ _ => rfl, .inl rfl⟩
theorem WStep.trans {w w1 w2 : World} {b : Nat} {r r1 r2 : Option Nat} (h : WStep w w1 b r r1) (k : WStep w1 w2 b r1 r2) : WStep w w2 b r r2 := by
  refine ⟨k.os.trans h.os, k.tape.trans h.tape, k.output.trans h.output, Nat.le_trans h.size k.size, fun j h1 h2 h3 => ?_, ?_⟩
  · rw [k.block j (Nat.lt_of_lt_of_le h1 h.size) h2 ?_, h.block j h1 h2 h3]
    rcases h.row' with e | ⟨i, e, hi⟩
    · rw [e]; exact h3
    · rw [e]; intro e2; have := Option.some.inj e2; omega
  · rcases k.row' with e | ⟨i, e, hi⟩
    · rw [e]; exact h.row'
    · exact .inr ⟨i, e, Nat.le_trans h.size hi⟩
theorem WStep.new {w w1 w2 : World} {b : Nat} {r r1 : Option Nat} (h : WStep w w1 b r r1) (k : Below w1.heap.size w1 w2) : WStep w w2 b r r1 :=
  ⟨k.os.trans h.os, k.tape.trans h.tape, k.output.trans h.output, Nat.le_trans h.size k.size, fun j h1 h2 h3 => (k.block j (Nat.lt_of_lt_of_le h1 h.size)).trans (h.block j h1 h2 h3), h.row'⟩
theorem WStep.ahead {w w1 w2 : World} {b : Nat} {r r1 : Option Nat} (k : Below w.heap.size w w1) (h : WStep w1 w2 b r r1) : WStep w w2 b r r1 :=
  ⟨h.os.trans k.os, h.tape.trans k.tape, h.output.trans k.output, Nat.le_trans k.size h.size, fun j h1 h2 h3 => (h.block j (Nat.lt_of_lt_of_le h1 k.size) h2 h3).trans (k.block j h1), h.row'.imp id fun ⟨i, e, hi⟩ => ⟨i, e, Nat.le_trans k.size hi⟩⟩
theorem Wr.rowLo {w : World} {base b : Nat} {row : Option Nat} {p : List UInt8} (h : Wr w base b row p) : ∀ k, row = some k → base ≤ k ∧ k < w.heap.size := by
  obtain ⟨v, h1, h2, h3⟩ := h.cell
  intro k hk
  exact h3.at_base k (h2.trans hk)
theorem Wr.bLt {w : World} {base b : Nat} {row : Option Nat} {p : List UInt8} (h : Wr w base b row p) : b < w.heap.size := by
  obtain ⟨v, h1, _⟩ := h.cell
  exact World.block_lt_of_cell? w _ h1
theorem WStep.below {w w' : World} {base b : Nat} {r r' : Option Nat} {p : List UInt8} (h : WStep w w' b r r') (hw : Wr w base b r p) : Below base w w' :=
  ⟨h.os, h.tape, h.output, h.size, fun k hk => by
    have hb := hw.lo
    have hbl := hw.bLt
    exact h.block k (by omega) (by omega) (fun e => by have := hw.rowLo k e.symm; omega)⟩
/-- another writer stands as it did -/
theorem Wr.other {w w' : World} {base b b2 : Nat} {r r' row : Option Nat} {q : List UInt8} (h : Wr w base b2 row q) (hs : WStep w w' b r r') (h1 : b2 ≠ b) (h2 : r ≠ some b2) (h3 : row ≠ some b) (h4 : row = none ∨ row ≠ r) : Wr w' base b2 row q := by
  obtain ⟨v, c1, c2, c3⟩ := h.cell
  have hb : w'.heap[b2]? = w.heap[b2]? := hs.block b2 h.bLt h1 (fun e => h2 e.symm)
  refine ⟨⟨v, (World.cell?_of_block (a := ⟨b2, 0, none⟩) hb).trans c1, c2, ⟨c3.out.1, ?_⟩⟩, (World.frozen?_of_block (a := ⟨b2, 0, none⟩) hb).trans h.fz, h.ne, h.lo⟩
  rcases c3.out.2 with h5 | ⟨g, cap, cur, rfl, hg, hh, r5⟩
  · exact .inl h5
  · have e : row = some g := c2.symm
    refine .inr ⟨g, cap, cur, rfl, hg, ?_, r5⟩
    rw [hs.block g (Array.getElem?_eq_some_iff.1 hh).1 (fun e2 => h3 (by rw [e, e2])) (fun e2 => by
      rcases h4 with h4 | h4
      · rw [e] at h4; exact absurd h4 (by simp)
      · exact h4 (e.trans e2))]
    exact hh
theorem Wr.new {w w' : World} {base b : Nat} {row : Option Nat} {p : List UInt8} (h : Wr w base b row p) (hb : Below w.heap.size w w') : Wr w' base b row p := by
  obtain ⟨v, c1, c2, c3⟩ := h.cell
  exact ⟨⟨v, (hb.cell (p := ⟨b, 0, none⟩) h.bLt).trans c1, c2, c3.new hb⟩, (hb.frozen (p := ⟨b, 0, none⟩) h.bLt).trans h.fz, h.ne, h.lo⟩
/-- a writer's value as a slice -/
theorem Wr.open_ {w : World} {base b : Nat} {row : Option Nat} {p : List UInt8} (h : Wr w base b row p) : ∃ A c, w.cell? ⟨b, 0, none⟩ = some (.slice A p.length c) ∧ (Value.slice A p.length c).ownBlock = row ∧ OB w base 5 (.slice A p.length c) p ∧ RB w A c p := by
  obtain ⟨v, c1, c2, c3⟩ := h.cell
  obtain ⟨A, c, rfl, hr⟩ := c3.form
  exact ⟨A, c, c1, c2, c3, hr⟩
/-- a new writer -/
theorem Wr.fresh (w : World) (base : Nat) (hb : base ≤ w.heap.size) (t : TypeId) : Wr (w.alloc (.cells #[.slice none 0 0] t)) base w.heap.size none [] := by
  have hh := heap_alloc_new w (.cells #[.slice none 0 0] t)
  exact ⟨⟨_, cell_of_row _ _ _ _ _ _ hh, rfl, OB.nil _ _ _⟩, frozen_of_row _ _ _ _ _ hh, by simp, hb⟩
/-- its bytes are stored anew -/
theorem Wr.put {w0 w : World} {base b : Nat} {row row' : Option Nat} {p q : List UInt8} {v : Value} (h : Wr w0 base b row p) (hs : WStep w0 w b row row) (hr : row' = v.ownBlock) (hrow : row' = row ∨ ∃ k, row' = some k ∧ w0.heap.size ≤ k) (hb : w.heap[b]? = w0.heap[b]?) (ho : OB w base 5 v q) :
    Wr (w.setCell ⟨b, 0, none⟩ v) base b row' q ∧ WStep w0 (w.setCell ⟨b, 0, none⟩ v) b row row' := by
  have hne : row' ≠ some b := by
    rcases hrow with e | ⟨k, e, hk⟩
    · rw [e]; exact h.ne
    · have := h.bLt
      rw [e]; intro e2; have := Option.some.inj e2; omega
  obtain ⟨v0, c1, _, _⟩ := h.cell
  have hbl : b < w.heap.size := Nat.lt_of_lt_of_le h.bLt hs.size
  have hc0 : w.cell? ⟨b, 0, none⟩ = some v0 := (World.cell?_of_block (a := ⟨b, 0, none⟩) hb).trans c1
  have hg : w.grownBy (w.setCell ⟨b, 0, none⟩ v) (some b) := ⟨rfl, rfl, rfl, by simp [World.setCell], fun k _ hk => heap_setCell_other _ _ _ _ (fun e => hk (by rw [e]))⟩
  have hf0 : w.frozen? ⟨b, 0, none⟩ = false := (World.frozen?_of_block (a := ⟨b, 0, none⟩) hb).trans h.fz
  refine ⟨⟨⟨v, ?_, hr.symm, ho.keep hg (.inr (by rw [← hr]; exact hne))⟩, ?_, hne, h.lo⟩, ?_⟩
  · exact World.cell?_setCell_same _ _ _ hc0
  · rw [World.frozen?_setCell]; exact hf0
  · exact ⟨hs.os, hs.tape, hs.output, by simpa [World.setCell] using hs.size, fun k h1 h2 h3 => (heap_setCell_other _ _ _ _ h2).trans (hs.block k h1 h2 h3), hrow⟩

/-- append(v, x...), and where its row lies -/
theorem wp_appendB_at {P : Program} {t e : TypeId} {w : World} {ops : Array Oper} {rest : List Oper} {o : Oper} {a : Act} {Q : Exit → Act → World → Prop} (bt : ByteT P t e) (hg : o.guard = none) (s x : Operand) (hop : o.op = .call { callee := .builtin .append, args := #[s, x], argTypes := #[t, t] })
    (base : Nat) (v : Value) (p : List UInt8) (hs : a.eval s = v) (ho : OB w base e v p) (A : Option Addr) (q : List UInt8) (n c : Nat) (hx : a.eval x = .slice A n c) (hn : n = q.length) (hq : RB w A c q)
    (hlen : p.length + q.length ≤ 140737488355328) (hbase : base ≤ w.heap.size) (r : List UInt8) (hr : p ++ q = r)
    (h : ∀ A' c' w', OB w' base e (.slice A' r.length c') r → w.grownBy w' v.ownBlock → ((Value.slice A' r.length c').ownBlock = v.ownBlock ∨ (Value.slice A' r.length c').ownBlock = some w.heap.size) → wpList P ops Q rest (a.put o.dst (.slice A' r.length c')) w') : wpList P ops Q (o :: rest) a w := by
  subst hn
  subst hr
  obtain ⟨i, hi, hz, hsz, hb⟩ := info_parts bt.info
  cases A with
  | none =>
    obtain ⟨rfl, rfl⟩ := hq.nil rfl
    refine wpList_append_own_none hg s x t hop base e i 1 bt.sl hi v p.length (encB p) hs ho.out hx ?_
    obtain ⟨A', c', rfl, _⟩ := ho.form
    have h' := h A' c' w (by simpa using ho) ⟨rfl, rfl, rfl, Nat.le_refl _, fun _ _ _ => rfl⟩ (.inl (by simp))
    simpa using h'
  | some ad =>
    refine Go.wpList_append_own_at (w := w) hg s x t hop base e i (.int .u8 0) 1 1 bt.sl hi hz hsz hb rfl (by decide) v p.length (encB p) hs ho.out ad q.length c (encB q) hx (by rw [encB_length, Nat.mul_one]) hq.cells (encB_one q) (by unfold maxLen; omega) (by omega) hbase fun v' w' h1 h2 h3 h4 => ?_
    have h5 : OB w' base e v' (p ++ q) := ⟨by simpa [encB_append] using h1⟩
    obtain ⟨A', c', rfl, _⟩ := h5.form
    exact h A' c' w' h5 h2 h4
end Go.Proofs.Ytelecdncdaepnaa
