import Derived.Test.YtpmnnnbkbcpgjaaGreatDoorQLiftEntries
import Derived.Test.YtpmnnnbkbcpgjaaGreatDoorQLiftUpto
import Derived.Test.YtpmnnnbkbcpgjaaGreatDoorQTopWant
/- How a list of parts that comes in as an argument reads: for the rows. -/
namespace Go.Proofs.YtpmnnnbkbcpgjaaGreatDoor
open Go.ChangeShapes Go.WideShapes Go.Deep Go.RowKit

theorem four_of {α : Type} {l : List α} (h : l.length = 4) : ∃ a b c d, l = [a, b, c, d] := by
  match l, h with
  | [a, b, c, d], _ => exact ⟨a, b, c, d, rfl⟩
theorem two_of {α : Type} {l : List α} (h : l.length = 2) : ∃ a b, l = [a, b] := by
  match l, h with
  | [a, b], _ => exact ⟨a, b, rfl⟩
theorem part_fields {H : Type} {enc : TypeId × Value → H} {W : World} {base n : Nat} {held : Bool} {cs : List Value} {x : DataW H × List MemPlace}
    (hw : ∀ m ∈ DataW.weights (H := H) Tryz.prog 83 x.1, m ≤ reachBytes) (hcl : cs.length = 4)
    (h : DataW.trod enc Tryz.prog W base (fun _ => true) held n 83 cs = some x) :
    ∃ o : PtV, cs = [.int .u8 o.c, .int .u8 o.e.k, .slice o.a.KA o.e.K.length o.a.kc, .slice o.a.VA o.e.V.length o.a.vc] ∧ EnOk W o.e o.a ∧ o.c ≤ 255 := by
  obtain ⟨v0, v1, v2, v3, rfl⟩ := four_of hcl
  obtain ⟨ys, n', _, hy, _, hyl, hf⟩ := DataW.trod_struct Tryz.underlying83 h
  obtain ⟨y0, y1, rfl⟩ := two_of hyl
  have h0 : DataW.trod enc Tryz.prog W base (fun _ => true) held n' 5 ((([v0, v1, v2, v3] : List Value).drop 0).take (Tryz.prog.cellsOf 5)) = some y0 := hf 0 _ rfl
  have h1 : DataW.trod enc Tryz.prog W base (fun _ => true) held n' 72 ((([v0, v1, v2, v3] : List Value).drop 1).take (Tryz.prog.cellsOf 72)) = some y1 := hf 1 _ rfl
  have c8 : Tryz.prog.cellsOf 5 = 1 := by kernel_rfl
  have c72 : Tryz.prog.cellsOf 72 = 3 := by kernel_rfl
  rw [c8] at h0
  rw [c72] at h1
  have h0 : DataW.trod enc Tryz.prog W base (fun _ => true) held n' 5 [v0] = some y0 := h0
  have h1 : DataW.trod enc Tryz.prog W base (fun _ => true) held n' 72 [v1, v2, v3] = some y1 := h1
  obtain ⟨k, rfl, wk⟩ := num_cell Tryz.underlying5 h0
  obtain ⟨b, rfl⟩ := byte_of wk
  obtain ⟨zs, n2, e1, hzl, _, hz⟩ := open_fields Tryz.underlying72 (by kernel_rfl) (by kernel_rfl) h1
  have hx : x.1 = .agg [y0.1, y1.1] := by rw [hy]; rfl
  obtain ⟨o, g0, g1, g2, ho, _, _⟩ := entry_fields (fun j => ([v1, v2, v3] : List Value)[j]?) hzl _ Tryz.underlying72 (fun m hm => hw m (by
    rw [hx]
    rw [← e1] at hm
    have := DataW.weights_mem_each (P := Tryz.prog) (ts := [5, 72]) (ds := [y0.1, y1.1]) (j := 1) (t := 72) (d := y1.1) rfl rfl m hm
    simp only [DataW.weights, show Tryz.prog.underlying 83 = some _ from Tryz.underlying83]
    exact this)) hz
  simp at g0 g1 g2
  subst g0; subst g1; subst g2
  refine ⟨⟨b.toNat, o.1, o.2⟩, rfl, ho, ?_⟩
  have := b.toNat_lt
  show b.toNat ≤ 255
  omega
theorem open_parts {H : Type} {enc : TypeId × Value → H} {W : World} {base : Nat} {held : Bool} {A : Option Addr} {len c : Nat} {d : DataW H} {ps : List MemPlace} {ts : List TypeId} {ds : List (DataW H)} {j : Nat}
    (hsz : (DataW.weightsEach Tryz.prog ts ds).all (· ≤ reachBytes) = true) (ht : ts[j]? = some 78) (hd : ds[j]? = some d)
    (h : DataW.Trod enc Tryz.prog W base (fun _ => true) held 78 (.slice A len c) d ps) : ∃ l : List PtV, len = l.length ∧ Prts W A l ∧ l.length ≤ Rows.uptoBulk d ∧ True := by
  obtain ⟨fuel, hf⟩ := h
  rcases open_slice Tryz.underlying78 hf with ⟨hcs, _⟩ | ⟨a, l0, c0, m, n, D, Pl, hcs, hb, hl, hm, hmm, hx, hi⟩
  · simp [Value.cells] at hcs
    obtain ⟨rfl, rfl, rfl⟩ := hcs
    exact ⟨[], rfl, ⟨fun i hi => absurd hi (by simp), fun o ho => absurd ho (by simp)⟩, by simp, trivial⟩
  · simp [Value.cells] at hcs
    obtain ⟨rfl, rfl, rfl⟩ := hcs
    have hC : Tryz.prog.cellsOf 83 = 4 := by kernel_rfl
    obtain ⟨rfl, _⟩ := Prod.mk.inj hx
    have hml : len ≤ m := by rw [hmm]; split <;> omega
    have hall : ∀ k ∈ DataW.weights (H := H) Tryz.prog 78 (.slice ((List.range len).map D) ((List.range (m - len)).map fun j => D (len + j))), k ≤ reachBytes := fun k hk => by
      have := List.all_eq_true.1 hsz k (DataW.weights_mem_each ht hd k hk)
      simpa using this
    obtain ⟨l, hl2, hg⟩ := collect len (fun i (o : PtV) => W.cell? (a.add (i * 4)) = some (.int .u8 o.c) ∧ W.cell? (a.add (i * 4 + 1)) = some (.int .u8 o.e.k) ∧ W.cell? (a.add (i * 4 + 2)) = some (.slice o.a.KA o.e.K.length o.a.kc) ∧ W.cell? (a.add (i * 4 + 3)) = some (.slice o.a.VA o.e.V.length o.a.vc) ∧ EnOk W o.e o.a ∧ o.c ≤ 255) fun i him => by
      obtain ⟨cs', hc, ht'⟩ := hi i (by omega)
      rw [hC] at hc
      obtain ⟨_, hcl, hat⟩ := World.cells?_some hc
      obtain ⟨o, rfl, h1, h2⟩ := part_fields (x := (D i, Pl i)) (fun k hk => hall k (by
        have := weights_all (P := Tryz.prog) (l := (List.range len).map D) hk (List.mem_map.2 ⟨i, List.mem_range.2 him, rfl⟩)
        simp only [DataW.weights, show Tryz.prog.underlying 78 = some (.slice 83) from Tryz.underlying78]
        exact List.mem_cons_of_mem _ (List.mem_append_left _ this))) hcl ht'
      refine ⟨o, ?_, ?_, ?_, ?_, h1, h2⟩
      · have := hat 0 (by decide); rw [Go.Deep.add_add] at this; exact this
      · have := hat 1 (by decide); rw [Go.Deep.add_add] at this; exact this
      · have := hat 2 (by decide); rw [Go.Deep.add_add] at this; exact this
      · have := hat 3 (by decide); rw [Go.Deep.add_add] at this; exact this
    refine ⟨l, hl2.symm, ⟨fun i hi => ?_, fun o ho => ?_⟩, ?_, trivial⟩
    · obtain ⟨g0, g1, g2, g3, _⟩ := hg i l[i] (List.getElem?_eq_getElem hi)
      exact ⟨a, rfl, g0, g1, g2, g3⟩
    · obtain ⟨i, hi, rfl⟩ := List.getElem_of_mem ho
      exact (hg i l[i] (List.getElem?_eq_getElem hi)).2.2.2.2
    · have h1 := bulk_length ((List.range len).map D)
      rw [List.length_map, List.length_range] at h1
      simp only [Rows.uptoBulk]
      omega
end Go.Proofs.YtpmnnnbkbcpgjaaGreatDoor
