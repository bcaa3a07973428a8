import Derived.Test.YtpmnnnbkbcpgjaaGreatDoorQBa
/- Lists of lists of bytes, as arguments. -/
namespace Go.Proofs.YtpmnnnbkbcpgjaaGreatDoor
open Go.RowKit

structure LsV where
  A : Option Addr
  c : Nat
  P : List UInt8
structure Lsts (w : World) (A : Option Addr) (l : List LsV) : Prop where
  out : ∀ i (h : i < l.length), ∃ a, A = some a ∧ w.cell? (a.add i) = some (.slice l[i].A l[i].P.length l[i].c)
  ok : ∀ o ∈ l, RB w o.A o.c o.P
theorem Lsts.new {w w' : World} {A : Option Addr} {l : List LsV} (h : Lsts w A l) (hb : Below w.heap.size w w') : Lsts w' A l := by
  refine ⟨fun i hi => ?_, fun o ho => (h.ok o ho).new hb⟩
  obtain ⟨a, ha, h0⟩ := h.out i hi
  exact ⟨a, ha, (hb.cell (World.block_lt_of_cell? w _ h0)).trans h0⟩
theorem Lsts.at_ {w : World} {A : Option Addr} {l : List LsV} (h : Lsts w A l) (i : Nat) (hi : i < l.length) : ∃ a o, A = some a ∧ l[i]? = some o ∧ o ∈ l ∧ RB w o.A o.c o.P ∧ w.cell? (a.add i) = some (.slice o.A o.P.length o.c) := by
  obtain ⟨a, ha, h0⟩ := h.out i hi
  exact ⟨a, l[i], ha, List.getElem?_eq_getElem hi, List.getElem_mem hi, h.ok _ (List.getElem_mem hi), h0⟩
end Go.Proofs.YtpmnnnbkbcpgjaaGreatDoor
