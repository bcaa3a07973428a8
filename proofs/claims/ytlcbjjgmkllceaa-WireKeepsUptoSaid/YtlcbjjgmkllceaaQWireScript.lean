import Derived.Test.YtlcbjjgmkllceaaQWireLaid
import Derived.Deep.Slices
import Derived.Deep.Fields
/- Scripts of things to lay and to take off, as arguments. -/
namespace Go.Proofs.Ytlcbjjgmkllceaa
open Go.RowKit

structure OpV where
  k : Int
  v : Nat
  n : Int
  A : Option Addr
  c : Nat
  P : List UInt8
structure OpOk (w : World) (o : OpV) : Prop where
  k : -9223372036854775808 ≤ o.k ∧ o.k ≤ 9223372036854775807
  v : o.v ≤ 18446744073709551615
  n : -9223372036854775808 ≤ o.n ∧ o.n ≤ 9223372036854775807
  P : RB w o.A o.c o.P
/-- a list of things as it comes in -/
structure Ops (w : World) (A : Option Addr) (l : List OpV) : Prop where
  out : ∀ i (h : i < l.length), ∃ a, A = some a ∧ w.cell? (a.add (i * 4)) = some (.int .i64 l[i].k) ∧ w.cell? (a.add (i * 4 + 1)) = some (.int .u64 l[i].v) ∧ w.cell? (a.add (i * 4 + 2)) = some (.int .i64 l[i].n) ∧ w.cell? (a.add (i * 4 + 3)) = some (.slice l[i].A l[i].P.length l[i].c)
  ok : ∀ o ∈ l, OpOk w o
theorem OpOk.new {w w' : World} {o : OpV} (h : OpOk w o) (hb : Below w.heap.size w w') : OpOk w' o := ⟨h.k, h.v, h.n, h.P.new hb⟩
theorem Ops.new {w w' : World} {A : Option Addr} {l : List OpV} (h : Ops w A l) (hb : Below w.heap.size w w') : Ops w' A l := by
  refine ⟨fun i hi => ?_, fun o ho => (h.ok o ho).new hb⟩
  obtain ⟨a, ha, h0, h1, h2, h3⟩ := h.out i hi
  have hc : ∀ j u, w.cell? (a.add j) = some u → w'.cell? (a.add j) = some u := fun j u hu => (hb.cell (World.block_lt_of_cell? w _ hu)).trans hu
  exact ⟨a, ha, hc _ _ h0, hc _ _ h1, hc _ _ h2, hc _ _ h3⟩

theorem add_next (a : Addr) (k j : Nat) (hj : 0 < j) : (⟨(a.add k).block, (a.add k).off + j, none⟩ : Addr) = a.add (k + j) := by
  unfold Addr.add
  split <;> split <;> simp_all <;> omega
theorem Ops.at_ {w : World} {A : Option Addr} {l : List OpV} (h : Ops w A l) (i : Nat) (hi : i < l.length) : ∃ a o, A = some a ∧ l[i]? = some o ∧ o ∈ l ∧ OpOk w o ∧ w.cell? (a.add (i * 4)) = some (.int .i64 o.k) ∧ w.cell? ⟨(a.add (i * 4)).block, (a.add (i * 4)).off + 1, none⟩ = some (.int .u64 o.v) ∧ w.cell? ⟨(a.add (i * 4)).block, (a.add (i * 4)).off + 2, none⟩ = some (.int .i64 o.n) ∧ w.cell? ⟨(a.add (i * 4)).block, (a.add (i * 4)).off + 3, none⟩ = some (.slice o.A o.P.length o.c) := by
  obtain ⟨a, ha, h0, h1, h2, h3⟩ := h.out i hi
  refine ⟨a, l[i], ha, List.getElem?_eq_getElem hi, List.getElem_mem hi, h.ok _ (List.getElem_mem hi), h0, ?_, ?_, ?_⟩
  · rw [add_next _ _ _ (by decide)]; exact h1
  · rw [add_next _ _ _ (by decide)]; exact h2
  · rw [add_next _ _ _ (by decide)]; exact h3

/-- what a script lays -/
def laidAll (l : List OpV) : List UInt8 := l.flatMap fun o => laidL o.k o.v o.P
def bulkOps (l : List OpV) : Nat := (l.map fun o => o.P.length + 5).sum
theorem laidAll_snoc (l : List OpV) (i : Nat) (o : OpV) (h : l[i]? = some o) : laidAll (l.take (i + 1)) = laidAll (l.take i) ++ laidL o.k o.v o.P := by
  obtain ⟨hi, rfl⟩ := List.getElem?_eq_some_iff.1 h
  unfold laidAll
  rw [List.take_succ_eq_append_getElem hi, List.flatMap_append, List.flatMap_cons, List.flatMap_nil, List.append_nil]
theorem bulk_take (l : List OpV) (i : Nat) : bulkOps (l.take i) ≤ bulkOps l := by
  have h := congrArg bulkOps (List.take_append_drop i l)
  simp only [bulkOps, List.map_append, List.sum_append] at h ⊢
  omega
theorem laidAll_le (l : List OpV) : (laidAll l).length ≤ 2 * bulkOps l := by
  induction l with
  | nil => simp [laidAll]
  | cons o l ih =>
    have := laidL_length o.k o.v o.P
    simp only [laidAll, bulkOps, List.flatMap_cons, List.length_append, List.map_cons, List.sum_cons] at ih ⊢
    omega
theorem bulk_mem {l : List OpV} {o : OpV} (h : o ∈ l) : o.P.length + 5 ≤ bulkOps l := by
  induction l with
  | nil => simp at h
  | cons x l ih =>
    simp only [bulkOps, List.map_cons, List.sum_cons]
    rcases List.mem_cons.1 h with rfl | h
    · omega
    · have := ih h
      simp only [bulkOps] at this
      omega
theorem bulk_len (l : List OpV) : l.length ≤ bulkOps l := by
  induction l with
  | nil => simp
  | cons x l ih => simp only [bulkOps, List.map_cons, List.sum_cons, List.length_cons] at ih ⊢; omega

/-- a script of one thing, as a literal lays it -/
theorem Ops.one (w : World) (o : OpV) (ho : OpOk w o) (t : TypeId) : Ops (w.alloc (.cells #[.int .i64 o.k, .int .u64 o.v, .int .i64 o.n, .slice o.A o.P.length o.c] t)) (some ⟨w.heap.size, 0, none⟩) [o] := by
  refine ⟨fun i hi => ?_, fun x hx => ?_⟩
  · obtain rfl : i = 0 := by simpa using hi
    have q := Quad.fresh w w.heap.size rfl (.int .i64 o.k) (.int .u64 o.v) (.int .i64 o.n) (.slice o.A o.P.length o.c) t
    exact ⟨_, rfl, q.c0, q.c1, q.c2, q.c3⟩
  · obtain rfl : x = o := by simpa using hx
    exact ho.new (below_alloc1 (Below.refl _ _) (Nat.le_refl _) _)
theorem laidAll_one (o : OpV) : laidAll [o] = laidL o.k o.v o.P := by simp [laidAll]
end Go.Proofs.Ytlcbjjgmkllceaa
