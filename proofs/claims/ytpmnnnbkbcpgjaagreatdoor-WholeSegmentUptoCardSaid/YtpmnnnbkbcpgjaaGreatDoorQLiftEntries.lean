import Derived.Test.YtpmnnnbkbcpgjaaGreatDoorQLiftList
import Derived.Test.YtpmnnnbkbcpgjaaGreatDoorQLiftAgg
import Derived.Test.YtpmnnnbkbcpgjaaGreatDoorQBc
import Derived.Lib.SmallJoins
import Derived.SizedLaws
/- How a list of entries that comes in as an argument reads: for the rows. -/
namespace Go.Proofs.YtpmnnnbkbcpgjaaGreatDoor
open Go.ChangeShapes Go.WideShapes Go.Deep Go.RowKit

theorem weights_all {H : Type} {P : Program} {e : TypeId} {d : DataW H} {n : Nat} (hn : n ∈ d.weights P e) : ∀ {l : List (DataW H)}, d ∈ l → n ∈ DataW.weightsAll P e l
  | [], h => by simp at h
  | x :: l, h => by
    unfold DataW.weightsAll
    rcases List.mem_cons.1 h with rfl | h
    · exact List.mem_append_left _ hn
    · exact List.mem_append_right _ (weights_all hn h)
theorem entry_fields {H : Type} {enc : TypeId × Value → H} {W : World} {base n : Nat} {held : Bool} {ys : List (DataW H × List MemPlace)} (c : Nat → Option Value) (hl : ys.length = 3) (fs : Array Field) (hu : Tryz.prog.underlying 72 = some (.struct fs))
    (hw : ∀ m ∈ DataW.weights (H := H) Tryz.prog 72 (.agg (ys.map (·.1))), m ≤ reachBytes)
    (h : ∀ (j : Nat) (f : Field), fs[j]? = some f → ∃ (v : Value) (y : DataW H × List MemPlace), c j = some v ∧ ys[j]? = some y ∧ DataW.trod enc Tryz.prog W base (fun _ => true) held n f.type [v] = some y) :
    ∃ o : EnX, c 0 = some (.int .u8 o.1.k) ∧ c 1 = some (.slice o.2.KA o.1.K.length o.2.kc) ∧ c 2 = some (.slice o.2.VA o.1.V.length o.2.vc) ∧ EnOk W o.1 o.2 ∧ o.1.K.length ≤ 140737488351232 ∧ o.1.V.length ≤ 140737488351232 := by
  have e := Option.some.inj (hu.symm.trans Tryz.underlying72)
  injection e with e
  subst e
  simp only [DataW.weights, hu] at hw
  clear hu
  match ys, hl with
  | [y0, y1, y2], _ =>
    obtain ⟨v0, z0, c0, e0, t0⟩ := h 0 _ rfl
    obtain ⟨v1, z1, c1, e1, t1⟩ := h 1 _ rfl
    obtain ⟨v2, z2, c2, e2, t2⟩ := h 2 _ rfl
    simp at e0 e1 e2
    subst e0; subst e1; subst e2
    have hsz : (DataW.weightsEach (H := H) Tryz.prog [5, 36, 36] [y0.1, y1.1, y2.1]).all (· ≤ reachBytes) = true := List.all_eq_true.2 fun m hm => by
      rw [decide_eq_true_eq]; exact hw m hm
    obtain ⟨k, rfl, wk⟩ := num_cell Tryz.underlying5 t0
    obtain ⟨A1, l1, k1, p1, rfl, rfl, hp1, hb1⟩ := open_bytes_cell hsz (j := 1) (t := 36) rfl rfl Tryz.underlying36 Tryz.underlying5 (by kernel_rfl) (by kernel_rfl) t1
    obtain ⟨A2, l2, k2, p2, rfl, rfl, hp2, hb2⟩ := open_bytes_cell hsz (j := 2) (t := 36) rfl rfl Tryz.underlying36 Tryz.underlying5 (by kernel_rfl) (by kernel_rfl) t2
    obtain ⟨b, rfl⟩ := byte_of wk
    have hku := uB_ofNat b.toNat
    refine ⟨(⟨b.toNat, p1, p2⟩, ⟨A1, k1, A2, k2⟩), ?_, c1, c2, ⟨?_, hp1, hp2⟩, ?_, ?_⟩
    · rw [c0]; rfl
    · have := b.toNat_lt; show b.toNat ≤ 255; omega
    · have := hp1.len; show p1.length ≤ _; omega
    · have := hp2.len; show p2.length ≤ _; omega
theorem open_entries_cells {H : Type} {enc : TypeId × Value → H} {W : World} {base n : Nat} {held : Bool} {v : Value} {y : DataW H × List MemPlace} {ts : List TypeId} {ds : List (DataW H)} {j : Nat}
    (hsz : (DataW.weightsEach Tryz.prog ts ds).all (· ≤ reachBytes) = true) (ht : ts[j]? = some 33) (hd : ds[j]? = some y.1)
    (h : DataW.trod enc Tryz.prog W base (fun _ => true) held n 33 [v] = some y) : ∃ (A : Option Addr) (c : Nat) (l : List EnX), v = .slice A l.length c ∧ Ents W A l ∧ l.length * 56 ≤ 140737488351232 ∧ ∀ x ∈ l, x.1.K.length ≤ 140737488351232 ∧ x.1.V.length ≤ 140737488351232 := by
  rcases open_slice_fields Tryz.underlying33 Tryz.underlying72 (by kernel_rfl) (by kernel_rfl) h with ⟨hcs, _⟩ | ⟨a, l0, c0, D, sp, hcs, hlc, hcm, hx, hi⟩
  · simp at hcs
    exact ⟨none, 0, [], hcs, ⟨fun i hi => absurd hi (by simp), fun o ho => absurd ho (by simp)⟩, by simp, fun o ho => absurd ho (by simp)⟩
  · simp at hcs
    rw [hx] at hd
    have hall : ∀ m ∈ DataW.weights (H := H) Tryz.prog 33 (.slice ((List.range l0).map D) sp), m ≤ reachBytes := fun m hm => by
      have := List.all_eq_true.1 hsz m (DataW.weights_mem_each ht hd m hm)
      simpa using this
    obtain ⟨l, hl, hg⟩ := collect l0 (fun i (o : EnX) => W.cell? (a.add (i * 3)) = some (.int .u8 o.1.k) ∧ W.cell? (a.add (i * 3 + 1)) = some (.slice o.2.KA o.1.K.length o.2.kc) ∧ W.cell? (a.add (i * 3 + 2)) = some (.slice o.2.VA o.1.V.length o.2.vc) ∧ EnOk W o.1 o.2 ∧ o.1.K.length ≤ 140737488351232 ∧ o.1.V.length ≤ 140737488351232) fun i him => by
      obtain ⟨ys, n, hD, hyl, hfs⟩ := hi i him
      refine entry_fields (fun j => W.cell? (a.add (i * 3 + j))) hyl _ Tryz.underlying72 (fun m hm => hall m ?_) hfs
      rw [← hD] at hm
      have := weights_all (l := (List.range l0).map D) hm (List.mem_map.2 ⟨i, List.mem_range.2 him, rfl⟩)
      simp only [DataW.weights, show Tryz.prog.underlying 33 = some (.slice 72) from Tryz.underlying33]
      exact List.mem_cons_of_mem _ (List.mem_append_left _ this)
    have z := sized_slice hsz ht hd Tryz.underlying33
    rw [show Tryz.prog.bytesOf 72 = 56 by kernel_rfl] at z
    refine ⟨some a, c0, l, by rw [hcs, hl], ⟨fun i hi => ?_, fun o ho => ?_⟩, ?_, fun o ho => ?_⟩
    · obtain ⟨g0, g1, g2, _, _⟩ := hg i l[i] (List.getElem?_eq_getElem hi)
      exact ⟨a, rfl, g0, g1, g2⟩
    · obtain ⟨i, hi, rfl⟩ := List.getElem_of_mem ho
      exact (hg i l[i] (List.getElem?_eq_getElem hi)).2.2.2.1
    · unfold reachBytes at z; simp at z; rw [hl]; omega
    · obtain ⟨i, hi, rfl⟩ := List.getElem_of_mem ho
      exact (hg i l[i] (List.getElem?_eq_getElem hi)).2.2.2.2
theorem open_entries {H : Type} {enc : TypeId × Value → H} {W : World} {base : Nat} {held : Bool} {A : Option Addr} {len c : Nat} {d : DataW H} {ps : List MemPlace} {ts : List TypeId} {ds : List (DataW H)} {j : Nat}
    (hsz : (DataW.weightsEach Tryz.prog ts ds).all (· ≤ reachBytes) = true) (ht : ts[j]? = some 33) (hd : ds[j]? = some d)
    (h : DataW.Trod enc Tryz.prog W base (fun _ => true) held 33 (.slice A len c) d ps) : ∃ l : List EnX, len = l.length ∧ Ents W A l ∧ l.length * 56 ≤ 140737488351232 ∧ ∀ x ∈ l, x.1.K.length ≤ 140737488351232 ∧ x.1.V.length ≤ 140737488351232 := by
  obtain ⟨fuel, hf⟩ := h
  obtain ⟨A', c', l, hv, h1, h2, h3⟩ := open_entries_cells hsz ht (y := (d, ps)) hd hf
  injection hv with e1 e2 e3
  subst e1; subst e2; subst e3
  exact ⟨l, rfl, h1, h2, h3⟩
end Go.Proofs.YtpmnnnbkbcpgjaaGreatDoor
