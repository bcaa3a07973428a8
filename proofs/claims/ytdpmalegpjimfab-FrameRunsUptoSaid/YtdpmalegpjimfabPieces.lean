/- Lists of places and payloads, as arguments. -/
import Derived.Test.YtdpmalegpjimfabFrameScanMath
import Derived.Test.YtdpmalegpjimfabFrameLaws
namespace Go.Proofs.Ytdpmalegpjimfab
open Go.RowKit

structure PcOk (w : World) (f : FrV) : Prop where
  place : f.place ≤ 18446744073709551615
  P : RB w f.A f.c f.pay
structure Pcs (w : World) (A : Option Addr) (l : List FrV) : Prop where
  out : ∀ i (h : i < l.length), ∃ a, A = some a ∧ w.cell? (a.add (i * 2)) = some (.int .u64 l[i].place) ∧ w.cell? (a.add (i * 2 + 1)) = some (.slice l[i].A l[i].pay.length l[i].c)
  ok : ∀ f ∈ l, PcOk w f
theorem PcOk.new {w w' : World} {f : FrV} (h : PcOk w f) (hb : Below w.heap.size w w') : PcOk w' f := ⟨h.place, h.P.new hb⟩
theorem Pcs.new {w w' : World} {A : Option Addr} {l : List FrV} (h : Pcs w A l) (hb : Below w.heap.size w w') : Pcs w' A l := by
  refine ⟨fun i hi => ?_, fun o ho => (h.ok o ho).new hb⟩
  obtain ⟨a, ha, h0, h1⟩ := h.out i hi
  have hc : ∀ j u, w.cell? (a.add j) = some u → w'.cell? (a.add j) = some u := fun j u hu => (hb.cell (World.block_lt_of_cell? w _ hu)).trans hu
  exact ⟨a, ha, hc _ _ h0, hc _ _ h1⟩
theorem add_nextP (a : Addr) (k j : Nat) (hj : 0 < j) : (⟨(a.add k).block, (a.add k).off + j, none⟩ : Addr) = a.add (k + j) := by
  unfold Addr.add
  split <;> split <;> simp_all <;> omega
theorem Pcs.at_ {w : World} {A : Option Addr} {l : List FrV} (h : Pcs w A l) (i : Nat) (hi : i < l.length) : ∃ a f, A = some a ∧ l[i]? = some f ∧ f ∈ l ∧ PcOk w f ∧ w.cell? (a.add (i * 2)) = some (.int .u64 f.place) ∧ w.cell? ⟨(a.add (i * 2)).block, (a.add (i * 2)).off + 1, none⟩ = some (.slice f.A f.pay.length f.c) := by
  obtain ⟨a, ha, h0, h1⟩ := h.out i hi
  refine ⟨a, l[i], ha, List.getElem?_eq_getElem hi, List.getElem_mem hi, h.ok _ (List.getElem_mem hi), h0, ?_⟩
  rw [add_nextP _ _ _ (by decide)]; exact h1
def bulkPc (l : List FrV) : Nat := (l.map fun f => f.pay.length + 3).sum
theorem bulkPc_mem {l : List FrV} {f : FrV} (h : f ∈ l) : f.pay.length + 3 ≤ bulkPc l := by
  induction l with
  | nil => simp at h
  | cons x l ih =>
    simp only [bulkPc, List.map_cons, List.sum_cons]
    rcases List.mem_cons.1 h with rfl | h
    · omega
    · have := ih h
      simp only [bulkPc] at this
      omega
theorem bulkPc_len (l : List FrV) : l.length ≤ bulkPc l := by
  induction l with
  | nil => simp
  | cons x l ih => simp only [bulkPc, List.map_cons, List.sum_cons, List.length_cons] at ih ⊢; omega
end Go.Proofs.Ytdpmalegpjimfab
