/- How a list of things (top theorem of layer 1) that comes in as an argument reads: for the rows (with the bound on bulk). -/
import Derived.Test.YtdpmalegpjimfabLiftList
import Derived.Test.YtdpmalegpjimfabThings
import Derived.Lib.SmallJoins
namespace Go.Proofs.Ytdpmalegpjimfab
open Go.ChangeShapes Go.WideShapes Go.Deep Go.RowKit

theorem thing_fields {H : Type} {enc : TypeId × Value → H} {W : World} {base n : Nat} {held : Bool} {ys : List (DataW H × List MemPlace)} (c : Nat → Option Value) (hl : ys.length = 3) (fs : Array Field) (hu : Try.prog.underlying 88 = some (.struct fs))
    (h : ∀ (j : Nat) (f : Field), fs[j]? = some f → ∃ (v : Value) (y : DataW H × List MemPlace), c j = some v ∧ ys[j]? = some y ∧ DataW.trod enc Try.prog W base (fun _ => true) held n f.type [v] = some y) :
    ∃ o : ThV, c 0 = some (.int .u8 o.k) ∧ c 1 = some (.int .u64 o.v) ∧ c 2 = some (.slice o.A o.P.length o.c) ∧ ThOk W o ∧ o.P.length + 4 ≤ Rows.uptoBulk (H := H) (.agg (ys.map (·.1))) := by
  have e := Option.some.inj (hu.symm.trans Try.underlying88)
  injection e with e
  subst e
  clear hu
  match ys, hl with
  | [y0, y1, y2], _ =>
    obtain ⟨v0, z0, c0, e0, t0⟩ := h 0 _ rfl
    obtain ⟨v1, z1, c1, e1, t1⟩ := h 1 _ rfl
    obtain ⟨v2, z2, c2, e2, t2⟩ := h 2 _ rfl
    simp at e0 e1 e2
    subst e0; subst e1; subst e2
    obtain ⟨k, rfl, wk⟩ := num_cell Try.underlying5 t0
    obtain ⟨v, rfl, wv⟩ := num_cell Try.underlying22 t1
    obtain ⟨A, c', p, rfl, hp, hb⟩ := bytes_cell Try.underlying23 Try.underlying5 (by kernel_rfl) t2
    have hv := u64_of wv
    obtain ⟨x, rfl⟩ := Int.eq_ofNat_of_zero_le hv.1
    refine ⟨⟨k, x, A, c', p⟩, c0, c1, c2, ⟨u8_of wk, (by show x ≤ 18446744073709551615; omega), hp⟩, ?_⟩
    have b0 := bulk_one y0.1
    have b1 := bulk_one y1.1
    have hcl := hp.len
    simp only [List.map_cons, List.map_nil, Rows.uptoBulk, Rows.uptoBulkAll]
    show p.length + 4 ≤ _
    omega
theorem open_things {H : Type} {enc : TypeId × Value → H} {W : World} {base : Nat} {held : Bool} {A : Option Addr} {len c : Nat} {d : DataW H} {ps : List MemPlace}
    (h : DataW.Trod enc Try.prog W base (fun _ => true) held 84 (.slice A len c) d ps) : ∃ l : List ThV, len = l.length ∧ Ths W A l ∧ bulkT l ≤ Rows.uptoBulk d ∧ l.length ≤ 9223372036854775807 := by
  obtain ⟨fuel, hf⟩ := h
  rcases open_slice_fields Try.underlying84 Try.underlying88 (by kernel_rfl) (by kernel_rfl) hf with ⟨hcs, _⟩ | ⟨a, l0, c0, D, sp, hcs, hlc, hcm, hx, hi⟩
  · simp [Value.cells] at hcs
    obtain ⟨rfl, rfl, rfl⟩ := hcs
    exact ⟨[], rfl, ⟨fun i hi => absurd hi (by simp), fun o ho => absurd ho (by simp)⟩, by simp [bulkT], by simp⟩
  · simp [Value.cells] at hcs
    obtain ⟨rfl, rfl, rfl⟩ := hcs
    simp only at hx
    subst hx
    obtain ⟨l, hl, hg⟩ := collect len (fun i (o : ThV) => W.cell? (a.add (i * 3)) = some (.int .u8 o.k) ∧ W.cell? (a.add (i * 3 + 1)) = some (.int .u64 o.v) ∧ W.cell? (a.add (i * 3 + 2)) = some (.slice o.A o.P.length o.c) ∧ ThOk W o ∧ o.P.length + 4 ≤ Rows.uptoBulk (D i)) fun i him => by
      obtain ⟨ys, n, hD, hyl, hfs⟩ := hi i him
      rw [hD]
      exact thing_fields (fun j => W.cell? (a.add (i * 3 + j))) hyl _ Try.underlying88 hfs
    unfold maxLen at hcm
    refine ⟨l, hl.symm, ⟨fun i hi => ?_, fun o ho => ?_⟩, ?_, by omega⟩
    · obtain ⟨g0, g1, g2, _, _⟩ := hg i l[i] (List.getElem?_eq_getElem hi)
      exact ⟨a, rfl, g0, g1, g2⟩
    · obtain ⟨i, hi, rfl⟩ := List.getElem_of_mem ho
      exact (hg i l[i] (List.getElem?_eq_getElem hi)).2.2.2.1
    · have := sum_bulk (H := H) (fun o : ThV => o.P.length + 4) l ((List.range len).map D) (by simp [hl]) fun i o d ho hd => by
        have := (hg i o ho).2.2.2.2
        simp only [List.getElem?_map, Option.map_eq_some_iff] at hd
        obtain ⟨j, hj, rfl⟩ := hd
        obtain ⟨_, rfl⟩ := List.getElem?_eq_some_iff.1 hj
        simpa using this
      simp only [bulkT, Rows.uptoBulk]
      omega
end Go.Proofs.Ytdpmalegpjimfab
