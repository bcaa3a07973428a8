/- Lists of entries: of the call's own, and as they read. -/
import Derived.Test.YtelecdncdaepnaaDecodeWalk
import Derived.Maps.AppendAt
namespace Go.Proofs.Ytelecdncdaepnaa
open Go.RowKit

abbrev EnX := En × EnA
def cellsE (x : EnX) : List Value := [.int .u8 x.1.k, .slice x.2.KA x.1.K.length x.2.kc, .slice x.2.VA x.1.V.length x.2.vc]
/-- a list of entries, as it reads -/
structure Ents (w : World) (A : Option Addr) (es : List EnX) : Prop where
  out : ∀ i (h : i < es.length), ∃ a, A = some a ∧ w.cell? (a.add (i * 3)) = some (.int .u8 es[i].1.k) ∧ w.cell? (a.add (i * 3 + 1)) = some (.slice es[i].2.KA es[i].1.K.length es[i].2.kc) ∧ w.cell? (a.add (i * 3 + 2)) = some (.slice es[i].2.VA es[i].1.V.length es[i].2.vc)
  ok : ∀ x ∈ es, EnOk w x.1 x.2
theorem Ents.new {w w' : World} {A : Option Addr} {es : List EnX} (h : Ents w A es) (hb : Below w.heap.size w w') : Ents w' A es := by
  refine ⟨fun i hi => ?_, fun o ho => (h.ok o ho).new hb⟩
  obtain ⟨a, ha, h0, h1, h2⟩ := h.out i hi
  have hc : ∀ j u, w.cell? (a.add j) = some u → w'.cell? (a.add j) = some u := fun j u hu => (hb.cell (World.block_lt_of_cell? w _ hu)).trans hu
  exact ⟨a, ha, hc _ _ h0, hc _ _ h1, hc _ _ h2⟩
theorem add_nextE (a : Addr) (k j : Nat) (hj : 0 < j) : (⟨(a.add k).block, (a.add k).off + j, none⟩ : Addr) = a.add (k + j) := by
  unfold Addr.add
  split <;> split <;> simp_all <;> omega
theorem Ents.at_ {w : World} {A : Option Addr} {es : List EnX} (h : Ents w A es) (i : Nat) (hi : i < es.length) : ∃ a e x, A = some a ∧ es[i]? = some (e, x) ∧ (e, x) ∈ es ∧ EnOk w e x ∧ w.cell? (a.add (i * 3)) = some (.int .u8 e.k) ∧ w.cell? ⟨(a.add (i * 3)).block, (a.add (i * 3)).off + 1, none⟩ = some (.slice x.KA e.K.length x.kc) ∧ w.cell? ⟨(a.add (i * 3)).block, (a.add (i * 3)).off + 2, none⟩ = some (.slice x.VA e.V.length x.vc) := by
  obtain ⟨a, ha, h0, h1, h2⟩ := h.out i hi
  refine ⟨a, es[i].1, es[i].2, ha, List.getElem?_eq_getElem hi, List.getElem_mem hi, h.ok _ (List.getElem_mem hi), h0, ?_, ?_⟩
  · rw [add_nextE _ _ _ (by decide)]; exact h1
  · rw [add_nextE _ _ _ (by decide)]; exact h2
def ensOf (es : List EnX) : List En := es.map (·.1)
/-- where an entry's lists may stand -/
structure FarE (lo : Nat) (v : Value) (x : EnX) : Prop where
  K : ∀ a, x.2.KA = some a → 0 < x.1.K.length → lo ≤ a.block ∧ v.ownBlock ≠ some a.block
  V : ∀ a, x.2.VA = some a → 0 < x.1.V.length → lo ≤ a.block ∧ v.ownBlock ≠ some a.block
structure EL (w : World) (base : Nat) (v : Value) (n : Nat) (es : List EnX) : Prop where
  row : w.ownsRow base 26 3 v n (es.flatMap cellsE)
  len : n = es.length
  ok : ∀ x ∈ es, EnOk w x.1 x.2
  far : ∀ x ∈ es, FarE base v x
theorem EL.nil (w : World) (base : Nat) : EL w base (.slice none 0 0) 0 [] := ⟨World.ownsRow_nil w base _ 3, rfl, fun x hx => by simp at hx, fun x hx => by simp at hx⟩
theorem own_keep {w w' : World} {base e size n : Nat} {v : Value} {xs : List Value} (h : w.ownsRow base e size v n xs) (hk : ∀ k, base ≤ k → k < w.heap.size → w'.heap[k]? = w.heap[k]?) : w'.ownsRow base e size v n xs := by
  refine ⟨h.1, ?_⟩
  rcases h.2 with h1 | ⟨g, cap, cur, rfl, hb, hh, r⟩
  · exact .inl h1
  · exact .inr ⟨g, cap, cur, rfl, hb, (hk g hb (Array.getElem?_eq_some_iff.1 hh).1).trans hh, r⟩
theorem own_formE {w : World} {base e size n : Nat} {v : Value} {xs : List Value} (h : w.ownsRow base e size v n xs) : ∃ A c, v = .slice A n c := by
  rcases h.2 with ⟨rfl, hn⟩ | ⟨g, cap, cur, rfl, _⟩
  · exact ⟨none, 0, by rw [hn]⟩
  · exact ⟨_, _, rfl⟩
/-- what stands from base on stands -/
theorem EL.keep {w w' : World} {base n : Nat} {v : Value} {es : List EnX} (h : EL w base v n es) (hk : ∀ k, base ≤ k → k < w.heap.size → w'.heap[k]? = w.heap[k]?) : EL w' base v n es :=
  ⟨own_keep h.row hk, h.len, fun x hx => ⟨(h.ok x hx).k, (h.ok x hx).K.keep fun a e hp => hk _ ((h.far x hx).K a e hp).1 ((h.ok x hx).K.old.out a e hp), (h.ok x hx).V.keep fun a e hp => hk _ ((h.far x hx).V a e hp).1 ((h.ok x hx).V.old.out a e hp)⟩, h.far⟩
theorem EL.new {w w' : World} {base n : Nat} {v : Value} {es : List EnX} (h : EL w base v n es) (hb : Below w.heap.size w w') : EL w' base v n es := h.keep fun k _ hk => hb.block k hk
theorem EL.stepE {w w' : World} {F F' : Nat → Prop} {base n : Nat} {v : Value} {es : List EnX} (h : EL w base v n es) (hs : Step w w' F F') (hF : ∀ k, F k → k < base) : EL w' base v n es := h.keep fun k h1 h2 => hs.block k h2 (fun e => by have := hF k e; omega)
theorem EL.setLow {w : World} {base n g j : Nat} {v u : Value} {es : List EnX} (h : EL w base v n es) (hg : g < base) : EL (w.setCell ⟨g, j, none⟩ u) base v n es := h.keep fun k h1 h2 => (setCell_grown w g j u).block k h2 (fun e => by have := Option.some.inj e; omega)
theorem EL.lt {w : World} {base n : Nat} {v : Value} {es : List EnX} (h : EL w base v n es) : ∀ k, v.ownBlock = some k → base ≤ k ∧ k < w.heap.size := h.row.lt
theorem cellsE_length (es : List EnX) : (es.flatMap cellsE).length = es.length * 3 := by
  induction es with
  | nil => rfl
  | cons f fs ih => simp [List.flatMap_cons, cellsE, ih]; omega
theorem cellsE_get (es : List EnX) (i : Nat) (x : EnX) (h : es[i]? = some x) : (es.flatMap cellsE)[i * 3]? = some (.int .u8 x.1.k) ∧ (es.flatMap cellsE)[i * 3 + 1]? = some (.slice x.2.KA x.1.K.length x.2.kc) ∧ (es.flatMap cellsE)[i * 3 + 2]? = some (.slice x.2.VA x.1.V.length x.2.vc) := by
  induction es generalizing i with
  | nil => simp at h
  | cons g fs ih =>
    rw [List.flatMap_cons]
    cases i with
    | zero => simp at h; subst h; simp [cellsE]
    | succ i =>
      have := ih i (by simpa using h)
      rw [show (i + 1) * 3 = i * 3 + 3 by omega, show i * 3 + 3 + 1 = (i * 3 + 1) + 3 by omega, show i * 3 + 3 + 2 = (i * 3 + 2) + 3 by omega]
      rw [List.getElem?_append_right (by simp [cellsE]), List.getElem?_append_right (by simp [cellsE]), List.getElem?_append_right (by simp [cellsE])]
      simpa [cellsE] using this
/-- a list of the call's own, as it reads -/
theorem EL.reads {w : World} {base n c : Nat} {A : Option Addr} {es : List EnX} (h : EL w base (.slice A n c) n es) : Ents w A es := by
  refine ⟨fun i hi => ?_, h.ok⟩
  obtain ⟨c0, c1, c2⟩ := cellsE_get es i es[i] (List.getElem?_eq_getElem hi)
  rcases h.row.2 with ⟨h1, hn⟩ | ⟨g, cap, cur, e, hb, hh, _⟩
  · have := h.len
    omega
  · injection e with e1 e2 e3
    subst e1
    exact ⟨_, rfl, h.row.cells (g := g) rfl _ _ c0, h.row.cells (g := g) rfl _ _ c1, h.row.cells (g := g) rfl _ _ c2⟩
structure EnT (P : Program) (t e : TypeId) : Prop where
  sl : P.underlying t = some (.slice e)
  info : (P.info? e).map (fun i => (i.zero, i.size, i.bytes)) = some (some (.agg #[.int .u8 0, .slice none 0 0, .slice none 0 0]), 3, 56)
theorem ent : EnT Try.prog 22 26 := ⟨Try.underlying22, by kernel_rfl⟩
theorem run_appendE {P : Program} {t : TypeId} {w : World} (et : EnT P t 26) (ty : TypeId) (base : Nat) (v : Value) (n : Nat) (es : List EnX) (ho : EL w base v n es) (x : EnX) (ad : Addr) (h0 : w.cell? (ad.add 0) = some (.int .u8 x.1.k)) (h1 : w.cell? (ad.add 1) = some (.slice x.2.KA x.1.K.length x.2.kc)) (h2 : w.cell? (ad.add 2) = some (.slice x.2.VA x.1.V.length x.2.vc)) (hx : EnOk w x.1 x.2) (hf : FarE base v x) (hlen : (n + 1) * 56 ≤ 140737488355328) (hbase : base ≤ w.heap.size) :
    ∃ A' c' w', (Builtin.append_ #[t, t] ty #[v, .slice (some ad) 1 1]).run P w = .ok (.slice A' (n + 1) c') w' ∧ EL w' base (.slice A' (n + 1) c') (n + 1) (es ++ [x]) ∧ w.grownBy w' v.ownBlock := by
  obtain ⟨i, hi, hz, hsz, hb⟩ := info_parts et.info
  obtain ⟨v', w', hr, g1, g2, _, g4⟩ := Go.run_append_own_at (P := P) (w := w) base t ty 26 i _ 3 56 et.sl hi hz hsz hb rfl (by decide) v n (es.flatMap cellsE) ho.row ad 1 1 (cellsE x) rfl (fun j u hu => by
    match j, hu with
    | 0, hu => obtain rfl := Option.some.inj hu; exact h0
    | 1, hu => obtain rfl := Option.some.inj hu; exact h1
    | 2, hu => obtain rfl := Option.some.inj hu; exact h2
    | j + 3, hu => simp [cellsE] at hu) (fun u hu => by
    simp [cellsE] at hu
    rcases hu with rfl | rfl | rfl <;> rfl) (by unfold maxLen; omega) hlen hbase
  obtain ⟨A', c', rfl⟩ := own_formE g1
  have hall : ∀ y ∈ es ++ [x], EnOk w y.1 y.2 ∧ FarE base v y := fun y hy => by
    rcases List.mem_append.1 hy with hy | hy
    · exact ⟨ho.ok y hy, ho.far y hy⟩
    · obtain rfl := List.mem_singleton.1 hy
      exact ⟨hx, hf⟩
  have hstep : ∀ k, k < w.heap.size → v.ownBlock ≠ some k → (Value.slice A' (n + 1) c').ownBlock ≠ some k := fun k hk hv => by
    rcases g4 with e | e
    · rw [e]; exact hv
    · rw [e]; intro e2; have := Option.some.inj e2; omega
  refine ⟨A', c', w', hr, ⟨by simpa using g1, by rw [ho.len]; simp, fun y hy => ?_, fun y hy => ?_⟩, g2⟩
  · obtain ⟨k1, k2⟩ := hall y hy
    exact ⟨k1.k, k1.K.keep fun a e hp => g2.block _ (k1.K.old.out a e hp) (fun e2 => (k2.K a e hp).2 e2.symm), k1.V.keep fun a e hp => g2.block _ (k1.V.old.out a e hp) (fun e2 => (k2.V a e hp).2 e2.symm)⟩
  · obtain ⟨k1, k2⟩ := hall y hy
    exact ⟨fun a e hp => ⟨(k2.K a e hp).1, hstep _ (k1.K.old.out a e hp) (k2.K a e hp).2⟩, fun a e hp => ⟨(k2.V a e hp).1, hstep _ (k1.V.old.out a e hp) (k2.V a e hp).2⟩⟩
theorem op_appendE {P : Program} {t : TypeId} {w : World} {o : Oper} {a : Act} {K : Act → World → Prop} {Q : Exit → Act → World → Prop} (et : EnT P t 26) (s x : Operand) (hop : o.op = .call { callee := .builtin .append, args := #[s, x], argTypes := #[t, t] })
    (base : Nat) (v : Value) (n : Nat) (es : List EnX) (hs : a.eval s = v) (ho : EL w base v n es) (y : EnX) (ad : Addr) (hx : a.eval x = .slice (some ad) 1 1) (h0 : w.cell? (ad.add 0) = some (.int .u8 y.1.k)) (h1 : w.cell? (ad.add 1) = some (.slice y.2.KA y.1.K.length y.2.kc)) (h2 : w.cell? (ad.add 2) = some (.slice y.2.VA y.1.V.length y.2.vc)) (hy : EnOk w y.1 y.2) (hf : FarE base v y) (hlen : (n + 1) * 56 ≤ 140737488355328) (hbase : base ≤ w.heap.size)
    (h : ∀ A' c' w', EL w' base (.slice A' (n + 1) c') (n + 1) (es ++ [y]) → w.grownBy w' v.ownBlock → K (a.put o.dst (.slice A' (n + 1) c')) w') : o.wp P a w K Q := by
  obtain ⟨A', c', w', hr, g1, g2⟩ := run_appendE et o.type base v n es ho y ad h0 h1 h2 hy hf hlen hbase
  unfold Oper.wp execOp
  simp only [hop, resolve, invoke, builtin, Sem.run_bind, Sem.run_pure, Result.andThen_ok, List.map_toArray, List.map_cons, List.map_nil, hs, hx, hr]
  exact h A' c' w' g1 g2
theorem wp_appendE {P : Program} {t : TypeId} {w : World} {ops : Array Oper} {rest : List Oper} {o : Oper} {a : Act} {Q : Exit → Act → World → Prop} (et : EnT P t 26) (hg : o.guard = none) (s x : Operand) (hop : o.op = .call { callee := .builtin .append, args := #[s, x], argTypes := #[t, t] })
    (base : Nat) (v : Value) (n : Nat) (es : List EnX) (hs : a.eval s = v) (ho : EL w base v n es) (y : EnX) (ad : Addr) (hx : a.eval x = .slice (some ad) 1 1) (h0 : w.cell? (ad.add 0) = some (.int .u8 y.1.k)) (h1 : w.cell? (ad.add 1) = some (.slice y.2.KA y.1.K.length y.2.kc)) (h2 : w.cell? (ad.add 2) = some (.slice y.2.VA y.1.V.length y.2.vc)) (hy : EnOk w y.1 y.2) (hf : FarE base v y) (hlen : (n + 1) * 56 ≤ 140737488355328) (hbase : base ≤ w.heap.size)
    (h : ∀ A' c' w', EL w' base (.slice A' (n + 1) c') (n + 1) (es ++ [y]) → w.grownBy w' v.ownBlock → wpList P ops Q rest (a.put o.dst (.slice A' (n + 1) c')) w') : wpList P ops Q (o :: rest) a w :=
  wpList_plain hg fun _ hK => op_appendE et s x hop base v n es hs ho y ad hx h0 h1 h2 hy hf hlen hbase fun A' c' w' h1 h2 => hK _ _ (h A' c' w' h1 h2)
theorem step_appendE {P : Program} {t : TypeId} {w : World} {ops : Array Oper} {o : Oper} {a : Act} {K : Act → World → Prop} {Q : Exit → Act → World → Prop} {E : Prop} (et : EnT P t 26) (hg : o.guard = none) (s x : Operand) (hop : o.op = .call { callee := .builtin .append, args := #[s, x], argTypes := #[t, t] })
    (base : Nat) (v : Value) (n : Nat) (es : List EnX) (hs : a.eval s = v) (ho : EL w base v n es) (y : EnX) (ad : Addr) (hx : a.eval x = .slice (some ad) 1 1) (h0 : w.cell? (ad.add 0) = some (.int .u8 y.1.k)) (h1 : w.cell? (ad.add 1) = some (.slice y.2.KA y.1.K.length y.2.kc)) (h2 : w.cell? (ad.add 2) = some (.slice y.2.VA y.1.V.length y.2.vc)) (hy : EnOk w y.1 y.2) (hf : FarE base v y) (hlen : (n + 1) * 56 ≤ 140737488355328) (hbase : base ≤ w.heap.size)
    (h : ∀ A' c' w', EL w' base (.slice A' (n + 1) c') (n + 1) (es ++ [y]) → w.grownBy w' v.ownBlock → K (a.put o.dst (.slice A' (n + 1) c')) w') : if Region.wanted o (yielded ops a.tmps) = true then Oper.wp P o a w K Q else E := by
  have hw : Region.wanted o (yielded ops a.tmps) = true := by simp [Region.wanted, hg]
  rw [if_pos hw]
  exact op_appendE et s x hop base v n es hs ho y ad hx h0 h1 h2 hy hf hlen hbase h
end Go.Proofs.Ytelecdncdaepnaa
