import Derived.Test.YtpmnnnbkbcpgjaaGreatDoorQLiftEntries
import Derived.Test.YtpmnnnbkbcpgjaaGreatDoorQLiftUpto
import Derived.Test.YtpmnnnbkbcpgjaaGreatDoorQSegView
/- How a list of batches that comes in as an argument reads: for the rows. -/
namespace Go.Proofs.YtpmnnnbkbcpgjaaGreatDoor
open Go.ChangeShapes Go.WideShapes Go.Deep Go.RowKit

theorem batch_fields {H : Type} {enc : TypeId × Value → H} {W : World} {base n : Nat} {held : Bool} {ys : List (DataW H × List MemPlace)} (c : Nat → Option Value) (hl : ys.length = 2) (fs : Array Field) (hu : Tryz.prog.underlying 35 = some (.struct fs))
    (hw : ∀ m ∈ DataW.weights (H := H) Tryz.prog 35 (.agg (ys.map (·.1))), m ≤ reachBytes)
    (h : ∀ (j : Nat) (f : Field), fs[j]? = some f → ∃ (v : Value) (y : DataW H × List MemPlace), c j = some v ∧ ys[j]? = some y ∧ DataW.trod enc Tryz.prog W base (fun _ => true) held n f.type [v] = some y) :
    ∃ o : BvV, c 0 = some (.int .u64 o.f) ∧ c 1 = some (.slice o.A o.es.length o.c) ∧ Ents W o.A o.es ∧ o.f ≤ 18446744073709551615 ∧ o.es.length * 56 ≤ 140737488351232 ∧ ∀ x ∈ o.es, x.1.K.length ≤ 140737488351232 ∧ x.1.V.length ≤ 140737488351232 := by
  have e := Option.some.inj (hu.symm.trans Tryz.underlying35)
  injection e with e
  subst e
  simp only [DataW.weights, hu] at hw
  clear hu
  match ys, hl with
  | [y0, y1], _ =>
    obtain ⟨v0, z0, c0, e0, t0⟩ := h 0 _ rfl
    obtain ⟨v1, z1, c1, e1, t1⟩ := h 1 _ rfl
    simp at e0 e1
    subst e0; subst e1
    have hsz : (DataW.weightsEach (H := H) Tryz.prog [22, 33] [y0.1, y1.1]).all (· ≤ reachBytes) = true := List.all_eq_true.2 fun m hm => by
      rw [decide_eq_true_eq]; exact hw m hm
    obtain ⟨k, rfl, wk⟩ := num_cell Tryz.underlying22 t0
    obtain ⟨A, c', l, rfl, hE, h1, h2⟩ := open_entries_cells hsz (j := 1) rfl rfl t1
    have hv := u64_of wk
    obtain ⟨x, rfl⟩ := Int.eq_ofNat_of_zero_le hv.1
    exact ⟨⟨x, A, c', l⟩, c0, c1, hE, by show x ≤ 18446744073709551615; omega, h1, h2⟩
theorem open_batches {H : Type} {enc : TypeId × Value → H} {W : World} {base : Nat} {held : Bool} {A : Option Addr} {len c : Nat} {d : DataW H} {ps : List MemPlace} {ts : List TypeId} {ds : List (DataW H)} {j : Nat}
    (hsz : (DataW.weightsEach Tryz.prog ts ds).all (· ≤ reachBytes) = true) (ht : ts[j]? = some 49) (hd : ds[j]? = some d)
    (h : DataW.Trod enc Tryz.prog W base (fun _ => true) held 49 (.slice A len c) d ps) : ∃ l : List BvV, len = l.length ∧ Bats W A l ∧ l.length ≤ Rows.uptoBulk d ∧ ∀ b ∈ l, b.es.length * 56 ≤ 140737488355328 ∧ SmallEs b.es := by
  obtain ⟨fuel, hf⟩ := h
  rcases open_slice_fields Tryz.underlying49 Tryz.underlying35 (by kernel_rfl) (by kernel_rfl) hf with ⟨hcs, _⟩ | ⟨a, l0, c0, D, sp, hcs, hlc, hcm, hx, hi⟩
  · simp [Value.cells] at hcs
    obtain ⟨rfl, rfl, rfl⟩ := hcs
    exact ⟨[], rfl, ⟨fun i hi => absurd hi (by simp), fun o ho => absurd ho (by simp)⟩, by simp, fun o ho => absurd ho (by simp)⟩
  · simp [Value.cells] at hcs
    obtain ⟨rfl, rfl, rfl⟩ := hcs
    simp only at hx
    subst hx
    have hall : ∀ m ∈ DataW.weights (H := H) Tryz.prog 49 (.slice ((List.range len).map D) sp), m ≤ reachBytes := fun m hm => by
      have := List.all_eq_true.1 hsz m (DataW.weights_mem_each ht hd m hm)
      simpa using this
    obtain ⟨l, hl, hg⟩ := collect len (fun i (o : BvV) => W.cell? (a.add (i * 2)) = some (.int .u64 o.f) ∧ W.cell? (a.add (i * 2 + 1)) = some (.slice o.A o.es.length o.c) ∧ Ents W o.A o.es ∧ o.f ≤ 18446744073709551615 ∧ o.es.length * 56 ≤ 140737488351232 ∧ ∀ x ∈ o.es, x.1.K.length ≤ 140737488351232 ∧ x.1.V.length ≤ 140737488351232) fun i him => by
      obtain ⟨ys, n, hD, hyl, hfs⟩ := hi i him
      refine batch_fields (fun j => W.cell? (a.add (i * 2 + j))) hyl _ Tryz.underlying35 (fun m hm => hall m ?_) hfs
      rw [← hD] at hm
      have := weights_all (l := (List.range len).map D) hm (List.mem_map.2 ⟨i, List.mem_range.2 him, rfl⟩)
      simp only [DataW.weights, show Tryz.prog.underlying 49 = some (.slice 35) from Tryz.underlying49]
      exact List.mem_cons_of_mem _ (List.mem_append_left _ this)
    refine ⟨l, hl.symm, ⟨fun i hi => ?_, fun o ho => ?_⟩, ?_, fun o ho => ?_⟩
    · obtain ⟨g0, g1, _⟩ := hg i l[i] (List.getElem?_eq_getElem hi)
      exact ⟨a, rfl, g0, g1⟩
    · obtain ⟨i, hi, rfl⟩ := List.getElem_of_mem ho
      exact (hg i l[i] (List.getElem?_eq_getElem hi)).2.2.1
    · have h1 := bulk_length ((List.range len).map D)
      rw [List.length_map, List.length_range] at h1
      simp only [Rows.uptoBulk]
      omega
    · obtain ⟨i, hi, rfl⟩ := List.getElem_of_mem ho
      obtain ⟨_, _, _, _, h5, h6⟩ := hg i l[i] (List.getElem?_eq_getElem hi)
      exact ⟨by omega, fun x hx => by have := h6 x hx; omega⟩
end Go.Proofs.YtpmnnnbkbcpgjaaGreatDoor
