import Derived.Test.YtlcbjjgmkllceaaQLiftList
import Derived.Test.YtlcbjjgmkllceaaQWireScript
import Derived.Lib.SmallJoins
/- How a script of things that comes in as an argument reads: for the rows (with the bound on bulk). -/
namespace Go.Proofs.Ytlcbjjgmkllceaa
open Go.ChangeShapes Go.WideShapes Go.Deep Go.RowKit

theorem op_fields {H : Type} {enc : TypeId × Value → H} {W : World} {base n : Nat} {held : Bool} {ys : List (DataW H × List MemPlace)} (c : Nat → Option Value) (hl : ys.length = 4) (fs : Array Field) (hu : Try.prog.underlying 79 = some (.struct fs))
    (h : ∀ (j : Nat) (f : Field), fs[j]? = some f → ∃ (v : Value) (y : DataW H × List MemPlace), c j = some v ∧ ys[j]? = some y ∧ DataW.trod enc Try.prog W base (fun _ => true) held n f.type [v] = some y) :
    ∃ o : OpV, c 0 = some (.int .i64 o.k) ∧ c 1 = some (.int .u64 o.v) ∧ c 2 = some (.int .i64 o.n) ∧ c 3 = some (.slice o.A o.P.length o.c) ∧ OpOk W o ∧ o.P.length + 5 ≤ Rows.uptoBulk (H := H) (.agg (ys.map (·.1))) := by
  have e := Option.some.inj (hu.symm.trans Try.underlying79)
  injection e with e
  subst e
  clear hu
  match ys, hl with
  | [y0, y1, y2, y3], _ =>
    obtain ⟨v0, z0, c0, e0, t0⟩ := h 0 _ rfl
    obtain ⟨v1, z1, c1, e1, t1⟩ := h 1 _ rfl
    obtain ⟨v2, z2, c2, e2, t2⟩ := h 2 _ rfl
    obtain ⟨v3, z3, c3, e3, t3⟩ := h 3 _ rfl
    simp at e0 e1 e2 e3
    subst e0; subst e1; subst e2; subst e3
    obtain ⟨k, rfl, wk⟩ := num_cell Try.underlying3 t0
    obtain ⟨v, rfl, wv⟩ := num_cell Try.underlying22 t1
    obtain ⟨m, rfl, wm⟩ := num_cell Try.underlying3 t2
    obtain ⟨A, c', p, rfl, hp, hb⟩ := bytes_cell Try.underlying23 Try.underlying5 (by kernel_rfl) t3
    have hv := u64_of wv
    obtain ⟨x, rfl⟩ := Int.eq_ofNat_of_zero_le hv.1
    refine ⟨⟨k, x, m, A, c', p⟩, c0, c1, c2, c3, ⟨i64_of wk, (by show x ≤ 18446744073709551615; omega), i64_of wm, hp⟩, ?_⟩
    have b0 := bulk_one y0.1
    have b1 := bulk_one y1.1
    have b2 := bulk_one y2.1
    have hcl := hp.len
    simp only [List.map_cons, List.map_nil, Rows.uptoBulk, Rows.uptoBulkAll]
    show p.length + 5 ≤ _
    omega
theorem open_ops {H : Type} {enc : TypeId × Value → H} {W : World} {base : Nat} {held : Bool} {A : Option Addr} {len c : Nat} {d : DataW H} {ps : List MemPlace}
    (h : DataW.Trod enc Try.prog W base (fun _ => true) held 39 (.slice A len c) d ps) : ∃ l : List OpV, len = l.length ∧ Ops W A l ∧ bulkOps l ≤ Rows.uptoBulk d ∧ l.length ≤ 9223372036854775807 := by
  obtain ⟨fuel, hf⟩ := h
  rcases open_slice_fields Try.underlying39 Try.underlying79 (by kernel_rfl) (by kernel_rfl) hf with ⟨hcs, _⟩ | ⟨a, l0, c0, D, sp, hcs, hlc, hcm, hx, hi⟩
  · simp [Value.cells] at hcs
    obtain ⟨rfl, rfl, rfl⟩ := hcs
    exact ⟨[], rfl, ⟨fun i hi => absurd hi (by simp), fun o ho => absurd ho (by simp)⟩, by simp [bulkOps], by simp⟩
  · simp [Value.cells] at hcs
    obtain ⟨rfl, rfl, rfl⟩ := hcs
    simp only at hx
    subst hx
    obtain ⟨l, hl, hg⟩ := collect len (fun i (o : OpV) => W.cell? (a.add (i * 4)) = some (.int .i64 o.k) ∧ W.cell? (a.add (i * 4 + 1)) = some (.int .u64 o.v) ∧ W.cell? (a.add (i * 4 + 2)) = some (.int .i64 o.n) ∧ W.cell? (a.add (i * 4 + 3)) = some (.slice o.A o.P.length o.c) ∧ OpOk W o ∧ o.P.length + 5 ≤ Rows.uptoBulk (D i)) fun i him => by
      obtain ⟨ys, n, hD, hyl, hfs⟩ := hi i him
      rw [hD]
      exact op_fields (fun j => W.cell? (a.add (i * 4 + j))) hyl _ Try.underlying79 hfs
    unfold maxLen at hcm
    refine ⟨l, hl.symm, ⟨fun i hi => ?_, fun o ho => ?_⟩, ?_, by omega⟩
    · obtain ⟨g0, g1, g2, g3, _, _⟩ := hg i l[i] (List.getElem?_eq_getElem hi)
      exact ⟨a, rfl, g0, g1, g2, g3⟩
    · obtain ⟨i, hi, rfl⟩ := List.getElem_of_mem ho
      exact (hg i l[i] (List.getElem?_eq_getElem hi)).2.2.2.2.1
    · have := sum_bulk (H := H) (fun o : OpV => o.P.length + 5) l ((List.range len).map D) (by simp [hl]) fun i o d ho hd => by
        have := (hg i o ho).2.2.2.2.2
        simp only [List.getElem?_map, Option.map_eq_some_iff] at hd
        obtain ⟨j, hj, rfl⟩ := hd
        obtain ⟨_, rfl⟩ := List.getElem?_eq_some_iff.1 hj
        simpa using this
      simp only [bulkOps, Rows.uptoBulk]
      omega
set_option maxRecDepth 100000 in
theorem open_op {H : Type} {enc : TypeId × Value → H} {W : World} {base : Nat} {held : Bool} {r : Reach} {b0 : Nat} {v : Value} {d : DataW H} {ps : List MemPlace} (hv : Value.okWide Try.prog W r b0 79 v)
    (h : DataW.Trod enc Try.prog W base (fun _ => true) held 79 v d ps) : ∃ o : OpV, v = .agg #[.int .i64 o.k, .int .u64 o.v, .int .i64 o.n, .slice o.A o.P.length o.c] ∧ OpOk W o ∧ o.P.length + 5 ≤ Rows.uptoBulk d := by
  obtain ⟨v0, v1, v2, v3, y0, y1, y2, y3, n, rfl, rfl, _, t0, t1, t2, t3⟩ := Joins.open_agg4 Try.underlying79 (by kernel_rfl) (by kernel_rfl) hv h
  obtain ⟨k, rfl, wk⟩ := num_cell Try.underlying3 t0
  obtain ⟨v, rfl, wv⟩ := num_cell Try.underlying22 t1
  obtain ⟨m, rfl, wm⟩ := num_cell Try.underlying3 t2
  obtain ⟨A, c', p, rfl, hp, hb⟩ := bytes_cell Try.underlying23 Try.underlying5 (by kernel_rfl) t3
  have hv := u64_of wv
  obtain ⟨x, rfl⟩ := Int.eq_ofNat_of_zero_le hv.1
  refine ⟨⟨k, x, m, A, c', p⟩, rfl, ⟨i64_of wk, (by show x ≤ 18446744073709551615; omega), i64_of wm, hp⟩, ?_⟩
  have b0 := bulk_one y0.1
  have b1 := bulk_one y1.1
  have b2 := bulk_one y2.1
  have hcl := hp.len
  simp only [Rows.uptoBulk, Rows.uptoBulkAll]
  show p.length + 5 ≤ _
  omega
end Go.Proofs.Ytlcbjjgmkllceaa
