/- How a list of lists of bytes that comes in as an argument reads: for the rows (with the bound on bulk). -/
import Derived.Test.YtdpmalegpjimfabLiftList
import Derived.Test.YtdpmalegpjimfabLists
import Derived.Lib.SmallJoins
namespace Go.Proofs.Ytdpmalegpjimfab
open Go.ChangeShapes Go.WideShapes Go.Deep Go.RowKit

theorem open_lists {H : Type} {enc : TypeId × Value → H} {W : World} {base : Nat} {held : Bool} {A : Option Addr} {len c : Nat} {d : DataW H} {ps : List MemPlace}
    (h : DataW.Trod enc Try.prog W base (fun _ => true) held 69 (.slice A len c) d ps) : ∃ l : List LsV, len = l.length ∧ Lsts W A l ∧ (l.map fun o => o.P.length + 1).sum ≤ Rows.uptoBulk d ∧ l.length ≤ 9223372036854775807 := by
  obtain ⟨fuel, hf⟩ := h
  rcases open_slice_one Try.underlying69 (by kernel_rfl) hf with ⟨hcs, _⟩ | ⟨a, l0, c0, D, sp, hcs, hlc, hcm, hx, hi⟩
  · simp [Value.cells] at hcs
    obtain ⟨rfl, rfl, rfl⟩ := hcs
    exact ⟨[], rfl, ⟨fun i hi => absurd hi (by simp), fun o ho => absurd ho (by simp)⟩, by simp, by simp⟩
  · simp [Value.cells] at hcs
    obtain ⟨rfl, rfl, rfl⟩ := hcs
    simp only at hx
    subst hx
    obtain ⟨l, hl, hg⟩ := collect len (fun i (o : LsV) => W.cell? (a.add i) = some (.slice o.A o.P.length o.c) ∧ RB W o.A o.c o.P ∧ o.P.length + 1 ≤ Rows.uptoBulk (D i)) fun i him => by
      obtain ⟨v, n, pl, hv, ht⟩ := hi i him
      obtain ⟨A', c', p, rfl, hp, hb⟩ := bytes_cell Try.underlying23 Try.underlying5 (by kernel_rfl) ht
      have h1 := hp.len
      have h2 : c' + 1 ≤ Rows.uptoBulk (D i) := hb
      exact ⟨⟨A', c', p⟩, hv, hp, by show p.length + 1 ≤ _; omega⟩
    unfold maxLen at hcm
    refine ⟨l, hl.symm, ⟨fun i hi => ?_, fun o ho => ?_⟩, ?_, by omega⟩
    · obtain ⟨g0, _, _⟩ := hg i l[i] (List.getElem?_eq_getElem hi)
      exact ⟨a, rfl, g0⟩
    · obtain ⟨i, hi, rfl⟩ := List.getElem_of_mem ho
      exact (hg i l[i] (List.getElem?_eq_getElem hi)).2.1
    · have := sum_bulk (H := H) (fun o : LsV => o.P.length + 1) l ((List.range len).map D) (by simp [hl]) fun i o d ho hd => by
        have := (hg i o ho).2.2
        simp only [List.getElem?_map, Option.map_eq_some_iff] at hd
        obtain ⟨j, hj, rfl⟩ := hd
        obtain ⟨_, rfl⟩ := List.getElem?_eq_some_iff.1 hj
        simpa using this
      simp only [Rows.uptoBulk]
      omega
end Go.Proofs.Ytdpmalegpjimfab
