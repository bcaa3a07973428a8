import Derived.Test.YtpmnnnbkbcpgjaaGreatDoorQLiftEntries
import Derived.Test.YtpmnnnbkbcpgjaaGreatDoorQLists
/- How a list of lists of bytes that comes in as an argument reads, with the bound on sizes: for the rows. -/
namespace Go.Proofs.YtpmnnnbkbcpgjaaGreatDoor
open Go.ChangeShapes Go.WideShapes Go.Deep Go.RowKit

theorem open_listsS {H : Type} {enc : TypeId × Value → H} {W : World} {base : Nat} {held : Bool} {A : Option Addr} {len c : Nat} {d : DataW H} {ps : List MemPlace} {ts : List TypeId} {ds : List (DataW H)} {j : Nat}
    (hsz : (DataW.weightsEach Tryz.prog ts ds).all (· ≤ reachBytes) = true) (htj : ts[j]? = some 48) (hdj : ds[j]? = some d)
    (h : DataW.Trod enc Tryz.prog W base (fun _ => true) held 48 (.slice A len c) d ps) : ∃ l : List LsV, len = l.length ∧ Lsts W A l ∧ l.length ≤ 9223372036854775807 ∧ ∀ o ∈ l, o.P.length ≤ 140737488351232 := by
  obtain ⟨fuel, hf⟩ := h
  rcases open_slice_one Tryz.underlying48 (by kernel_rfl) hf with ⟨hcs, _⟩ | ⟨a, l0, c0, D, sp, hcs, hlc, hcm, hx, hi⟩
  · simp [Value.cells] at hcs
    obtain ⟨rfl, rfl, rfl⟩ := hcs
    exact ⟨[], rfl, ⟨fun i hi => absurd hi (by simp), fun o ho => absurd ho (by simp)⟩, by simp, fun o ho => absurd ho (by simp)⟩
  · simp [Value.cells] at hcs
    obtain ⟨rfl, rfl, rfl⟩ := hcs
    simp only at hx
    subst hx
    have hall : ∀ m ∈ DataW.weights (H := H) Tryz.prog 48 (.slice ((List.range len).map D) sp), m ≤ reachBytes := fun m hm => by
      have := List.all_eq_true.1 hsz m (DataW.weights_mem_each htj hdj m hm)
      simpa using this
    obtain ⟨l, hl, hg⟩ := collect len (fun i (o : LsV) => W.cell? (a.add i) = some (.slice o.A o.P.length o.c) ∧ RB W o.A o.c o.P ∧ o.P.length ≤ 140737488351232) fun i him => by
      obtain ⟨v, n, pl, hv, ht⟩ := hi i him
      have hsz1 : (DataW.weightsEach (H := H) Tryz.prog [36] [D i]).all (· ≤ reachBytes) = true := List.all_eq_true.2 fun m hm => by
        rw [decide_eq_true_eq]
        refine hall m ?_
        have hm' : m ∈ DataW.weights Tryz.prog 36 (D i) := by
          simp only [DataW.weightsEach, List.append_nil] at hm; exact hm
        have := weights_all (l := (List.range len).map D) hm' (List.mem_map.2 ⟨i, List.mem_range.2 him, rfl⟩)
        simp only [DataW.weights, show Tryz.prog.underlying 48 = some (.slice 36) from Tryz.underlying48]
        exact List.mem_cons_of_mem _ (List.mem_append_left _ this)
      obtain ⟨A', n', c', p, rfl, rfl, hp, hb⟩ := open_bytes_cell hsz1 (j := 0) (t := 36) (y := (D i, pl)) rfl rfl Tryz.underlying36 Tryz.underlying5 (by kernel_rfl) (by kernel_rfl) ht
      have h1 := hp.len
      exact ⟨⟨A', c', p⟩, hv, hp, by show p.length ≤ _; omega⟩
    unfold maxLen at hcm
    refine ⟨l, hl.symm, ⟨fun i hi => ?_, fun o ho => ?_⟩, by omega, fun o ho => ?_⟩
    · obtain ⟨g0, _, _⟩ := hg i l[i] (List.getElem?_eq_getElem hi)
      exact ⟨a, rfl, g0⟩
    · obtain ⟨i, hi, rfl⟩ := List.getElem_of_mem ho
      exact (hg i l[i] (List.getElem?_eq_getElem hi)).2.1
    · obtain ⟨i, hi, rfl⟩ := List.getElem_of_mem ho
      exact (hg i l[i] (List.getElem?_eq_getElem hi)).2.2
end Go.Proofs.YtpmnnnbkbcpgjaaGreatDoor
