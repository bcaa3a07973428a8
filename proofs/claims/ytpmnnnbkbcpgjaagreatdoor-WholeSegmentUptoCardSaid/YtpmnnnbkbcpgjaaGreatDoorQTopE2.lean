import Derived.Test.YtpmnnnbkbcpgjaaGreatDoorQBd
import Derived.Test.YtpmnnnbkbcpgjaaGreatDoorQBc
/- append of an entry, and where the row lies then. -/
namespace Go.Proofs.YtpmnnnbkbcpgjaaGreatDoor
open Go.RowKit

theorem run_appendE2 {P : Program} {t : TypeId} {w : World} (et : EnT P t 72) (ty : TypeId) (base : Nat) (v : Value) (n : Nat) (es : List EnX) (ho : EL w base v n es) (x : EnX) (ad : Addr) (h0 : w.cell? (ad.add 0) = some (.int .u8 x.1.k)) (h1 : w.cell? (ad.add 1) = some (.slice x.2.KA x.1.K.length x.2.kc)) (h2 : w.cell? (ad.add 2) = some (.slice x.2.VA x.1.V.length x.2.vc)) (hx : EnOk w x.1 x.2) (hf : FarE base v x) (hlen : (n + 1) * 56 ≤ 140737488355328) (hbase : base ≤ w.heap.size) :
    ∃ A' c' w', (Builtin.append_ #[t, t] ty #[v, .slice (some ad) 1 1]).run P w = .ok (.slice A' (n + 1) c') w' ∧ EL w' base (.slice A' (n + 1) c') (n + 1) (es ++ [x]) ∧ w.grownBy w' v.ownBlock ∧ ((Value.slice A' (n + 1) c').ownBlock = v.ownBlock ∨ (Value.slice A' (n + 1) c').ownBlock = some w.heap.size) := by
  obtain ⟨i, hi, hz, hsz, hb⟩ := info_parts et.info
  obtain ⟨v', w', hr, g1, g2, _, g4⟩ := Go.run_append_own_at (P := P) (w := w) base t ty 72 i _ 3 56 et.sl hi hz hsz hb rfl (by decide) v n (es.flatMap cellsE) ho.row ad 1 1 (cellsE x) rfl (fun j u hu => by
    match j, hu with
    | 0, hu => obtain rfl := Option.some.inj hu; exact h0
    | 1, hu => obtain rfl := Option.some.inj hu; exact h1
    | 2, hu => obtain rfl := Option.some.inj hu; exact h2
    | j + 3, hu => simp [cellsE] at hu) (fun u hu => by
    simp [cellsE] at hu
    rcases hu with rfl | rfl | rfl <;> rfl) (by unfold maxLen; omega) hlen hbase
  obtain ⟨A', c', rfl⟩ := own_formE g1
  have hall : ∀ y ∈ es ++ [x], EnOk w y.1 y.2 ∧ FarE base v y := fun y hy => by
    rcases List.mem_append.1 hy with hy | hy
    · exact ⟨ho.ok y hy, ho.far y hy⟩
    · obtain rfl := List.mem_singleton.1 hy
      exact ⟨hx, hf⟩
  have hstep : ∀ k, k < w.heap.size → v.ownBlock ≠ some k → (Value.slice A' (n + 1) c').ownBlock ≠ some k := fun k hk hv => by
    rcases g4 with e | e
    · rw [e]; exact hv
    · rw [e]; intro e2; have := Option.some.inj e2; omega
  refine ⟨A', c', w', hr, ⟨by simpa using g1, by rw [ho.len]; simp, fun y hy => ?_, fun y hy => ?_⟩, g2, g4⟩
  · obtain ⟨k1, k2⟩ := hall y hy
    exact ⟨k1.k, k1.K.keep fun a e hp => g2.block _ (k1.K.old.out a e hp) (fun e2 => (k2.K a e hp).2 e2.symm), k1.V.keep fun a e hp => g2.block _ (k1.V.old.out a e hp) (fun e2 => (k2.V a e hp).2 e2.symm)⟩
  · obtain ⟨k1, k2⟩ := hall y hy
    exact ⟨fun a e hp => ⟨(k2.K a e hp).1, hstep _ (k1.K.old.out a e hp) (k2.K a e hp).2⟩, fun a e hp => ⟨(k2.V a e hp).1, hstep _ (k1.V.old.out a e hp) (k2.V a e hp).2⟩⟩
theorem op_appendE2 {P : Program} {t : TypeId} {w : World} {o : Oper} {a : Act} {K : Act → World → Prop} {Q : Exit → Act → World → Prop} (et : EnT P t 72) (s x : Operand) (hop : o.op = .call { callee := .builtin .append, args := #[s, x], argTypes := #[t, t] })
    (base : Nat) (v : Value) (n : Nat) (es : List EnX) (hs : a.eval s = v) (ho : EL w base v n es) (y : EnX) (ad : Addr) (hx : a.eval x = .slice (some ad) 1 1) (h0 : w.cell? (ad.add 0) = some (.int .u8 y.1.k)) (h1 : w.cell? (ad.add 1) = some (.slice y.2.KA y.1.K.length y.2.kc)) (h2 : w.cell? (ad.add 2) = some (.slice y.2.VA y.1.V.length y.2.vc)) (hy : EnOk w y.1 y.2) (hf : FarE base v y) (hlen : (n + 1) * 56 ≤ 140737488355328) (hbase : base ≤ w.heap.size)
    (h : ∀ A' c' w', EL w' base (.slice A' (n + 1) c') (n + 1) (es ++ [y]) → w.grownBy w' v.ownBlock → ((Value.slice A' (n + 1) c').ownBlock = v.ownBlock ∨ (Value.slice A' (n + 1) c').ownBlock = some w.heap.size) → K (a.put o.dst (.slice A' (n + 1) c')) w') : o.wp P a w K Q := by
  obtain ⟨A', c', w', hr, g1, g2, g4⟩ := run_appendE2 et o.type base v n es ho y ad h0 h1 h2 hy hf hlen hbase
  unfold Oper.wp execOp
  simp only [hop, resolve, invoke, builtin, Sem.run_bind, Sem.run_pure, Result.andThen_ok, List.map_toArray, List.map_cons, List.map_nil, hs, hx, hr]
  exact h A' c' w' g1 g2 g4
theorem wp_appendE2 {P : Program} {t : TypeId} {w : World} {ops : Array Oper} {rest : List Oper} {o : Oper} {a : Act} {Q : Exit → Act → World → Prop} (et : EnT P t 72) (hg : o.guard = none) (s x : Operand) (hop : o.op = .call { callee := .builtin .append, args := #[s, x], argTypes := #[t, t] })
    (base : Nat) (v : Value) (n : Nat) (es : List EnX) (hs : a.eval s = v) (ho : EL w base v n es) (y : EnX) (ad : Addr) (hx : a.eval x = .slice (some ad) 1 1) (h0 : w.cell? (ad.add 0) = some (.int .u8 y.1.k)) (h1 : w.cell? (ad.add 1) = some (.slice y.2.KA y.1.K.length y.2.kc)) (h2 : w.cell? (ad.add 2) = some (.slice y.2.VA y.1.V.length y.2.vc)) (hy : EnOk w y.1 y.2) (hf : FarE base v y) (hlen : (n + 1) * 56 ≤ 140737488355328) (hbase : base ≤ w.heap.size)
    (h : ∀ A' c' w', EL w' base (.slice A' (n + 1) c') (n + 1) (es ++ [y]) → w.grownBy w' v.ownBlock → ((Value.slice A' (n + 1) c').ownBlock = v.ownBlock ∨ (Value.slice A' (n + 1) c').ownBlock = some w.heap.size) → wpList P ops Q rest (a.put o.dst (.slice A' (n + 1) c')) w') : wpList P ops Q (o :: rest) a w :=
  wpList_plain hg fun _ hK => op_appendE2 et s x hop base v n es hs ho y ad hx h0 h1 h2 hy hf hlen hbase fun A' c' w' h1 h2 h3 => hK _ _ (h A' c' w' h1 h2 h3)
theorem cell_newW {w w' : World} {a : Addr} {v : Value} (hb : Below w.heap.size w w') (h : w.cell? a = some v) : w'.cell? a = some v := (hb.cell (World.block_lt_of_cell? w _ h)).trans h
theorem encBF_valid (f : Nat) (l : List En) (h0 : l.length ≠ 0) (h1 : f + l.length < 18446744073709551616) (h2 : l.length ≤ 64) (h3 : ∀ x ∈ l, chkF x = 0) : encBF f l = (encBL f l, 0) := by
  unfold encBF
  rw [if_pos (errB_ok f l h0 h1 h2 h3)]
end Go.Proofs.YtpmnnnbkbcpgjaaGreatDoor
