import Derived.Test.YtlcbjjgmkllceaaQLiftUpto
import Derived.Deep.Slices
import Derived.Deep.Fields
import Derived.ChangeSame
/- How a list of structs that comes in as an argument reads: for the rows (with the bound on bulk). -/
namespace Go.Proofs.Ytlcbjjgmkllceaa
open Go.ChangeShapes Go.WideShapes Go.Deep Go.RowKit

section
variable {H : Type} {enc : TypeId × Value → H} {P : Program} {w : World} {base : Nat} {spare : Nat → Bool} {held : Bool}
/-- the fields of a struct of one-cell fields -/
theorem open_fields {e : TypeId} {fs : Array Field} {fuel : Nat} {cs : List Value} {x : DataW H × List MemPlace} (he : P.underlying e = some (.struct fs)) (hone : oneCellFields P fs = true) (hC : P.cellsOf e = fs.size)
    (ht' : DataW.trod enc P w base spare held fuel e cs = some x) : ∃ (ys : List (DataW H × List MemPlace)) (n : Nat), x.1 = .agg (ys.map (·.1)) ∧ ys.length = fs.size ∧ cs.length = fs.size ∧
        ∀ (j : Nat) (f : Field), fs[j]? = some f → ∃ (v : Value) (y : DataW H × List MemPlace), cs[j]? = some v ∧ ys[j]? = some y ∧ DataW.trod enc P w base spare held n f.type [v] = some y := by
  obtain ⟨ys, n', hn', hy, hlen, hyl, hf⟩ := DataW.trod_struct he ht'
  rw [hC] at hlen
  subst hy
  refine ⟨ys, n', rfl, hyl, hlen, fun j f hj => ?_⟩
  obtain ⟨ho, hk⟩ := hone_of hone j f hj
  have hjl : j < fs.size := (Array.getElem?_eq_some_iff.1 hj).1
  have hv : cs[j]? = some (cs[j]'(by omega)) := List.getElem?_eq_getElem (by omega)
  have h1 := hf j f hj
  rw [ho, hk] at h1
  have hone' : (cs.drop j).take 1 = [cs[j]'(by omega)] := by
    rw [List.drop_eq_getElem_cons (by omega)]
    rfl
  rw [hone'] at h1
  have hys : ys[j]? = some (ys[j]'(by omega)) := List.getElem?_eq_getElem (by omega)
  exact ⟨_, _, hv, hys, h1.trans hys⟩
theorem open_slice_fields {t e : TypeId} {fs : Array Field} {fuel : Nat} {cs : List Value} {x : DataW H × List MemPlace} (ht : P.underlying t = some (.slice e)) (he : P.underlying e = some (.struct fs))
    (hone : oneCellFields P fs = true) (hC : P.cellsOf e = fs.size) (h : DataW.trod enc P w base spare held fuel t cs = some x) :
    (cs = [.slice none 0 0] ∧ x = (.nil, [])) ∨
    ∃ (a : Addr) (len cap : Nat) (D : Nat → DataW H) (sp : List (DataW H)), cs = [.slice (some a) len cap] ∧ len ≤ cap ∧ cap ≤ maxLen ∧ x.1 = .slice ((List.range len).map D) sp ∧
      ∀ i, i < len → ∃ (ys : List (DataW H × List MemPlace)) (n : Nat), D i = .agg (ys.map (·.1)) ∧ ys.length = fs.size ∧
        ∀ (j : Nat) (f : Field), fs[j]? = some f → ∃ (v : Value) (y : DataW H × List MemPlace), w.cell? (a.add (i * fs.size + j)) = some v ∧ ys[j]? = some y ∧ DataW.trod enc P w base spare held n f.type [v] = some y := by
  rcases open_slice ht h with h0 | ⟨a, len, cap, m, n, D, Pl, hcs, hb, hl, hm, hmm, hx, hi⟩
  · exact .inl h0
  · refine .inr ⟨a, len, cap, D, _, hcs, hl, hm, by rw [hx], fun i him => ?_⟩
    have hml : len ≤ m := by rw [hmm]; split <;> omega
    obtain ⟨cs', hc, ht'⟩ := hi i (by omega)
    rw [hC] at hc
    obtain ⟨ys, n', h1, h2, h3, h4⟩ := open_fields he hone hC ht'
    obtain ⟨_, hcl, hat⟩ := World.cells?_some hc
    refine ⟨ys, n', h1, h2, fun j f hj => ?_⟩
    obtain ⟨v, y, hv, hy, ht2⟩ := h4 j f hj
    have hjl : j < fs.size := (Array.getElem?_eq_some_iff.1 hj).1
    refine ⟨v, y, ?_, hy, ht2⟩
    rw [← Go.Deep.add_add, hat j hjl, hv]
/-- a list of lists -/
theorem open_slice_one {t e : TypeId} {fuel : Nat} {cs : List Value} {x : DataW H × List MemPlace} (ht : P.underlying t = some (.slice e)) (hC : P.cellsOf e = 1) (h : DataW.trod enc P w base spare held fuel t cs = some x) :
    (cs = [.slice none 0 0] ∧ x = (.nil, [])) ∨
    ∃ (a : Addr) (len cap : Nat) (D : Nat → DataW H) (sp : List (DataW H)), cs = [.slice (some a) len cap] ∧ len ≤ cap ∧ cap ≤ maxLen ∧ x.1 = .slice ((List.range len).map D) sp ∧
      ∀ i, i < len → ∃ (v : Value) (n : Nat) (pl : List MemPlace), w.cell? (a.add i) = some v ∧ DataW.trod enc P w base spare held n e [v] = some (D i, pl) := by
  rcases open_slice ht h with h0 | ⟨a, len, cap, m, n, D, Pl, hcs, hb, hl, hm, hmm, hx, hi⟩
  · exact .inl h0
  · refine .inr ⟨a, len, cap, D, _, hcs, hl, hm, by rw [hx], fun i him => ?_⟩
    have hml : len ≤ m := by rw [hmm]; split <;> omega
    obtain ⟨cs', hc, ht'⟩ := hi i (by omega)
    rw [hC] at hc
    obtain ⟨_, hcl, hat⟩ := World.cells?_some hc
    obtain ⟨v, rfl⟩ := List.length_eq_one_iff.1 hcl
    refine ⟨v, _, _, ?_, ht'⟩
    have := hat 0 (by decide)
    rw [Nat.mul_one] at this
    simpa [Addr.add] using this
end

/-- one thing for each place -/
theorem collect {α : Type} (n : Nat) (Good : Nat → α → Prop) (h : ∀ i, i < n → ∃ o, Good i o) : ∃ l : List α, l.length = n ∧ ∀ (i : Nat) (o : α), l[i]? = some o → Good i o := by
  induction n with
  | zero => exact ⟨[], rfl, fun i o ho => by simp at ho⟩
  | succ n ih =>
    obtain ⟨l, hl, hg⟩ := ih fun i hi => h i (by omega)
    obtain ⟨o, ho⟩ := h n (by omega)
    refine ⟨l ++ [o], by simp [hl], fun i x hx => ?_⟩
    by_cases hi : i < l.length
    · rw [List.getElem?_append_left hi] at hx
      exact hg i x hx
    · rw [List.getElem?_append_right (by omega)] at hx
      by_cases he : i - l.length = 0
      · rw [he] at hx
        simp at hx
        subst hx
        have : i = n := by omega
        subst this
        exact ho
      · rw [List.getElem?_eq_none (by simp; omega)] at hx
        exact absurd hx (by simp)
theorem sum_bulk {H α : Type} (f : α → Nat) : ∀ (l : List α) (ds : List (DataW H)), l.length = ds.length → (∀ (i : Nat) (o : α) (d : DataW H), l[i]? = some o → ds[i]? = some d → f o ≤ Rows.uptoBulk d) → (l.map f).sum ≤ Rows.uptoBulkAll ds := by
  intro l
  induction l with
  | nil => intro ds _ _; simp
  | cons o l ih =>
    intro ds hl h
    cases ds with
    | nil => simp at hl
    | cons d ds =>
      have h1 := h 0 o d rfl rfl
      have h2 := ih ds (by simpa using hl) fun i o' d' ho hd => h (i + 1) o' d' ho hd
      simp only [List.map_cons, List.sum_cons, Rows.uptoBulkAll]
      omega
/-- a cell that holds a list of bytes -/
theorem bytes_cell {H : Type} {enc : TypeId × Value → H} {P : Program} {W : World} {base n : Nat} {held : Bool} {t e : TypeId} {v : Value} {y : DataW H × List MemPlace}
    (hu : P.underlying t = some (.slice e)) (he : P.underlying e = some (.int .u8)) (hc : P.cellsOf e = 1)
    (h : DataW.trod enc P W base (fun _ => true) held n t [v] = some y) : ∃ (A : Option Addr) (c : Nat) (p : List UInt8), v = .slice A p.length c ∧ RB W A c p ∧ c + 1 ≤ Rows.uptoBulk y.1 := by
  have hv : ∃ (A : Option Addr) (len c : Nat), v = .slice A len c := by
    rcases open_ints hu he hc h with ⟨hcs, _⟩ | ⟨x, l, c, zs, hcs, _⟩
    · simp at hcs; exact ⟨none, 0, 0, hcs⟩
    · simp at hcs; exact ⟨some x, l, c, hcs⟩
  obtain ⟨A, len, c, rfl⟩ := hv
  have hbk := bytes_bulk (d := y.1) (ps := y.2) hu he hc ⟨n, h⟩
  rcases open_ints hu he hc h with ⟨hcs, _⟩ | ⟨x, l, c2, zs, hcs, _, hl, hm, hz, hx, hcell, hwz⟩
  · simp at hcs
    obtain ⟨rfl, rfl, rfl⟩ := hcs
    exact ⟨none, 0, [], rfl, RB.void W, hbk⟩
  · simp at hcs
    obtain ⟨rfl, rfl, rfl⟩ := hcs
    rw [if_pos rfl] at hz
    unfold maxLen at hm
    have hlen : ((zs.take len).map fun z => UInt8.ofNat z.toNat).length = len := by simp; omega
    refine ⟨some x, c, (zs.take len).map fun z => UInt8.ofNat z.toNat, by rw [hlen], ⟨fun _ => ⟨x, rfl, fun i hi => ?_⟩, fun e => absurd e (by simp), by rw [hlen]; exact hl, by omega⟩, hbk⟩
    have hi' : i < zs.length := by simp at hi; omega
    rw [hcell i hi']
    have hw := hwz zs[i] (List.getElem_mem hi')
    simp [Lit.wf, IntKind.min, IntKind.max, IntKind.signed, IntKind.bits] at hw
    rw [show zs.getD i 0 = zs[i] by simp [hi'], List.getElem_map, List.getElem_take]
    congr 2
    unfold uB
    rw [UInt8.toNat_ofNat']
    omega
theorem num_cell {H : Type} {enc : TypeId × Value → H} {P : Program} {W : World} {base n : Nat} {spare : Nat → Bool} {held : Bool} {t : TypeId} {k : IntKind} {v : Value} {y : DataW H × List MemPlace} (hu : P.underlying t = some (.int k))
    (h : DataW.trod enc P W base spare held n t [v] = some y) : ∃ a : Int, v = .int k a ∧ (Lit.int k a).wf = true := by
  obtain ⟨a, h1, _, h3⟩ := DataW.trod_int hu h
  exact ⟨a, by simpa using h1, h3⟩
end Go.Proofs.Ytlcbjjgmkllceaa
