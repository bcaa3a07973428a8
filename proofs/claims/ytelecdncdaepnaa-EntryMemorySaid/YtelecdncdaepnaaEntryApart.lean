/- Lists of entries of the call's own whose lists of bytes lie apart from one another. -/
import Derived.Test.YtelecdncdaepnaaEntryList
import Derived.Lib.SmallJoins
namespace Go.Proofs.Ytelecdncdaepnaa
open Go.RowKit

theorem sepV.symm {u v : Value} (h : sepV u v) : sepV v u := by
  unfold sepV at *
  rcases h with h | h
  · by_cases hv : v.ownBlock = none
    · exact .inl hv
    · exact .inr (by rw [h]; exact hv)
  · exact .inr (Ne.symm h)
theorem sepV.ne {u v : Value} (h : sepV u v) {k : Nat} (hu : u.ownBlock = some k) : v.ownBlock ≠ some k := fun e => by
  rcases h with h | h
  · rw [h] at hu; cases hu
  · exact h (hu.trans e.symm)
theorem OB.same {w w' : World} {base e : Nat} {v : Value} {p : List UInt8} (h : OB w base e v p) (hk : ∀ k, v.ownBlock = some k → w'.heap[k]? = w.heap[k]?) : OB w' base e v p := by
  refine ⟨h.out.1, ?_⟩
  rcases h.out.2 with h1 | ⟨b, cap, cur, e1, hb, hh, r⟩
  · exact .inl h1
  · exact .inr ⟨b, cap, cur, e1, hb, (hk b (by rw [e1]; rfl)).trans hh, r⟩
theorem EL.monoK {w : World} {base base' n : Nat} {v : Value} {es : List EnX} (h : EL w base v n es) (hb : base' ≤ base) : EL w base' v n es := ⟨Joins.ownsRow_le h.row hb, h.len, h.ok, fun x hx => ⟨fun a e hp => ⟨Nat.le_trans hb ((h.far x hx).K a e hp).1, ((h.far x hx).K a e hp).2⟩, fun a e hp => ⟨Nat.le_trans hb ((h.far x hx).V a e hp).1, ((h.far x hx).V a e hp).2⟩⟩⟩
def kV (x : EnX) : Value := .slice x.2.KA x.1.K.length x.2.kc
def vV (x : EnX) : Value := .slice x.2.VA x.1.V.length x.2.vc
def listV (es : List EnX) : List Value := es.flatMap fun x => [kV x, vV x]
theorem listV_append (es ds : List EnX) : listV (es ++ ds) = listV es ++ listV ds := List.flatMap_append
theorem mem_listV {es : List EnX} {u : Value} (h : u ∈ listV es) : ∃ x ∈ es, u = kV x ∨ u = vV x := by
  obtain ⟨x, hx, hu⟩ := List.mem_flatMap.1 h
  exact ⟨x, hx, by simpa using hu⟩
theorem mem_kV {es : List EnX} {x : EnX} (h : x ∈ es) : kV x ∈ listV es := List.mem_flatMap.2 ⟨x, h, by simp⟩
theorem mem_vV {es : List EnX} {x : EnX} (h : x ∈ es) : vV x ∈ listV es := List.mem_flatMap.2 ⟨x, h, by simp⟩
/-- the entries' lists are the call's own, in blocks from base on, no two in one -/
structure SepE (w : World) (base : Nat) (es : List EnX) : Prop where
  K : ∀ x ∈ es, OB w base 5 (kV x) x.1.K
  V : ∀ x ∈ es, OB w base 5 (vV x) x.1.V
  apart : (listV es).Pairwise sepV
theorem SepE.nil (w : World) (base : Nat) : SepE w base [] := ⟨fun x hx => absurd hx (by simp), fun x hx => absurd hx (by simp), List.Pairwise.nil⟩
theorem SepE.mono {w : World} {base base' : Nat} {es : List EnX} (h : SepE w base es) (hb : base' ≤ base) : SepE w base' es := ⟨fun x hx => (h.K x hx).mono hb, fun x hx => (h.V x hx).mono hb, h.apart⟩
theorem SepE.lt {w : World} {base : Nat} {es : List EnX} (h : SepE w base es) : ∀ u ∈ listV es, ∀ k, u.ownBlock = some k → base ≤ k ∧ k < w.heap.size := fun u hu k hk => by
  obtain ⟨x, hx, rfl | rfl⟩ := mem_listV hu
  · exact (h.K x hx).at_base k hk
  · exact (h.V x hx).at_base k hk
theorem SepE.keep {w w' : World} {base : Nat} {es : List EnX} (h : SepE w base es) (hk : ∀ u ∈ listV es, ∀ k, u.ownBlock = some k → w'.heap[k]? = w.heap[k]?) : SepE w' base es :=
  ⟨fun x hx => (h.K x hx).same (hk _ (mem_kV hx)), fun x hx => (h.V x hx).same (hk _ (mem_vV hx)), h.apart⟩
/-- and apart from a row -/
structure SepR (w : World) (base : Nat) (v : Value) (es : List EnX) : Prop where
  sep : SepE w base es
  far : ∀ u ∈ listV es, sepV u v
theorem SepR.nil (w : World) (base : Nat) (v : Value) : SepR w base v [] := ⟨SepE.nil w base, fun u hu => absurd hu (by simp [listV])⟩
theorem SepR.keep {w w' : World} {base : Nat} {v : Value} {es : List EnX} (h : SepR w base v es) (hk : ∀ k, base ≤ k → k < w.heap.size → v.ownBlock ≠ some k → w'.heap[k]? = w.heap[k]?) : SepR w' base v es :=
  ⟨h.sep.keep fun u hu k e => hk k (h.sep.lt u hu k e).1 (h.sep.lt u hu k e).2 ((h.far u hu).ne e), h.far⟩
theorem SepR.new {w w' : World} {base : Nat} {v : Value} {es : List EnX} (h : SepR w base v es) (hb : Below w.heap.size w w') : SepR w' base v es := h.keep fun k _ hk _ => hb.block k hk
theorem SepR.stepE {w w' : World} {F F' : Nat → Prop} {base : Nat} {v : Value} {es : List EnX} (h : SepR w base v es) (hs : Step w w' F F') (hF : ∀ k, F k → k < base) : SepR w' base v es := h.keep fun k h1 h2 _ => hs.block k h2 (fun e => by have := hF k e; omega)
theorem SepR.setLow {w : World} {base g j : Nat} {v u : Value} {es : List EnX} (h : SepR w base v es) (hg : g < base) : SepR (w.setCell ⟨g, j, none⟩ u) base v es := h.keep fun k h1 h2 _ => (setCell_grown w g j u).block k h2 (fun e => by have := Option.some.inj e; omega)
theorem SepR.grown {w w' : World} {base : Nat} {v v' : Value} {es : List EnX} (h : SepR w base v es) (hg : w.grownBy w' v.ownBlock) (hv : v'.ownBlock = v.ownBlock ∨ v'.ownBlock = some w.heap.size) : SepR w' base v' es := by
  refine ⟨(h.keep (w' := w') fun k _ hk hne => hg.block k hk (fun e => hne e.symm)).sep, fun u hu => ?_⟩
  rcases hv with e | e
  · exact (h.far u hu).imp id fun h9 => by rw [e]; exact h9
  · exact sepV.of_lt (fun k hk => (h.sep.lt u hu k hk).2) fun k hk => by rw [e] at hk; exact Nat.le_of_eq (Option.some.inj hk)
theorem SepR.push {w : World} {base m : Nat} {v : Value} {es : List EnX} {x : EnX} (h : SepR w base v es) (hlt : ∀ u ∈ listV es, ∀ k, u.ownBlock = some k → k < m) (hv : ∀ k, v.ownBlock = some k → k < m) (hK : OB w m 5 (kV x) x.1.K) (hV : OB w m 5 (vV x) x.1.V) (hb : base ≤ m) (hkv : sepV (kV x) (vV x)) : SepR w base v (es ++ [x]) := by
  have hkl : ∀ k, (kV x).ownBlock = some k → m ≤ k := fun k e => (hK.at_base k e).1
  have hvl : ∀ k, (vV x).ownBlock = some k → m ≤ k := fun k e => (hV.at_base k e).1
  have e1 : listV (es ++ [x]) = listV es ++ [kV x, vV x] := by rw [listV_append]; rfl
  refine ⟨⟨fun y hy => ?_, fun y hy => ?_, ?_⟩, fun u hu => ?_⟩
  · rcases List.mem_append.1 hy with hy | hy
    · exact h.sep.K y hy
    · obtain rfl := List.mem_singleton.1 hy; exact hK.mono hb
  · rcases List.mem_append.1 hy with hy | hy
    · exact h.sep.V y hy
    · obtain rfl := List.mem_singleton.1 hy; exact hV.mono hb
  · rw [e1]
    refine List.pairwise_append.2 ⟨h.sep.apart, by simp [hkv], fun a ha b hb => ?_⟩
    simp only [List.mem_cons, List.not_mem_nil, or_false] at hb
    rcases hb with rfl | rfl
    · exact sepV.of_lt (hlt a ha) hkl
    · exact sepV.of_lt (hlt a ha) hvl
  · rw [e1] at hu
    rcases List.mem_append.1 hu with hu | hu
    · exact h.far u hu
    · simp only [List.mem_cons, List.not_mem_nil, or_false] at hu
      rcases hu with rfl | rfl
      · exact (sepV.of_lt hv hkl).symm
      · exact (sepV.of_lt hv hvl).symm
theorem run_appendEK {P : Program} {t : TypeId} {w : World} (et : EnT P t 26) (ty : TypeId) (base : Nat) (v : Value) (n : Nat) (es : List EnX) (ho : EL w base v n es) (x : EnX) (ad : Addr) (h0 : w.cell? (ad.add 0) = some (.int .u8 x.1.k)) (h1 : w.cell? (ad.add 1) = some (.slice x.2.KA x.1.K.length x.2.kc)) (h2 : w.cell? (ad.add 2) = some (.slice x.2.VA x.1.V.length x.2.vc)) (hx : EnOk w x.1 x.2) (hf : FarE base v x) (hlen : (n + 1) * 56 ≤ 140737488355328) (hbase : base ≤ w.heap.size) :
    ∃ A' c' w', (Builtin.append_ #[t, t] ty #[v, .slice (some ad) 1 1]).run P w = .ok (.slice A' (n + 1) c') w' ∧ EL w' base (.slice A' (n + 1) c') (n + 1) (es ++ [x]) ∧ w.grownBy w' v.ownBlock ∧ ((Value.slice A' (n + 1) c').ownBlock = v.ownBlock ∨ (Value.slice A' (n + 1) c').ownBlock = some w.heap.size) := by
  obtain ⟨i, hi, hz, hsz, hb⟩ := info_parts et.info
  obtain ⟨v', w', hr, g1, g2, _, g4⟩ := Go.run_append_own_at (P := P) (w := w) base t ty 26 i _ 3 56 et.sl hi hz hsz hb rfl (by decide) v n (es.flatMap cellsE) ho.row ad 1 1 (cellsE x) rfl (fun j u hu => by
    match j, hu with
    | 0, hu => obtain rfl := Option.some.inj hu; exact h0
    | 1, hu => obtain rfl := Option.some.inj hu; exact h1
    | 2, hu => obtain rfl := Option.some.inj hu; exact h2
    | j + 3, hu => simp [cellsE] at hu) (fun u hu => by
    simp [cellsE] at hu
    rcases hu with rfl | rfl | rfl <;> rfl) (by unfold maxLen; omega) hlen hbase
  obtain ⟨A', c', rfl⟩ := own_formE g1
  have hall : ∀ y ∈ es ++ [x], EnOk w y.1 y.2 ∧ FarE base v y := fun y hy => by
    rcases List.mem_append.1 hy with hy | hy
    · exact ⟨ho.ok y hy, ho.far y hy⟩
    · obtain rfl := List.mem_singleton.1 hy
      exact ⟨hx, hf⟩
  have hstep : ∀ k, k < w.heap.size → v.ownBlock ≠ some k → (Value.slice A' (n + 1) c').ownBlock ≠ some k := fun k hk hv => by
    rcases g4 with e | e
    · rw [e]; exact hv
    · rw [e]; intro e2; have := Option.some.inj e2; omega
  refine ⟨A', c', w', hr, ⟨by simpa using g1, by rw [ho.len]; simp, fun y hy => ?_, fun y hy => ?_⟩, g2, g4⟩
  · obtain ⟨k1, k2⟩ := hall y hy
    exact ⟨k1.k, k1.K.keep fun a e hp => g2.block _ (k1.K.old.out a e hp) (fun e2 => (k2.K a e hp).2 e2.symm), k1.V.keep fun a e hp => g2.block _ (k1.V.old.out a e hp) (fun e2 => (k2.V a e hp).2 e2.symm)⟩
  · obtain ⟨k1, k2⟩ := hall y hy
    exact ⟨fun a e hp => ⟨(k2.K a e hp).1, hstep _ (k1.K.old.out a e hp) (k2.K a e hp).2⟩, fun a e hp => ⟨(k2.V a e hp).1, hstep _ (k1.V.old.out a e hp) (k2.V a e hp).2⟩⟩
theorem op_appendEK {P : Program} {t : TypeId} {w : World} {o : Oper} {a : Act} {K : Act → World → Prop} {Q : Exit → Act → World → Prop} (et : EnT P t 26) (s x : Operand) (hop : o.op = .call { callee := .builtin .append, args := #[s, x], argTypes := #[t, t] })
    (base : Nat) (v : Value) (n : Nat) (es : List EnX) (hs : a.eval s = v) (ho : EL w base v n es) (y : EnX) (ad : Addr) (hx : a.eval x = .slice (some ad) 1 1) (h0 : w.cell? (ad.add 0) = some (.int .u8 y.1.k)) (h1 : w.cell? (ad.add 1) = some (.slice y.2.KA y.1.K.length y.2.kc)) (h2 : w.cell? (ad.add 2) = some (.slice y.2.VA y.1.V.length y.2.vc)) (hy : EnOk w y.1 y.2) (hf : FarE base v y) (hlen : (n + 1) * 56 ≤ 140737488355328) (hbase : base ≤ w.heap.size)
    (h : ∀ A' c' w', EL w' base (.slice A' (n + 1) c') (n + 1) (es ++ [y]) → w.grownBy w' v.ownBlock → ((Value.slice A' (n + 1) c').ownBlock = v.ownBlock ∨ (Value.slice A' (n + 1) c').ownBlock = some w.heap.size) → K (a.put o.dst (.slice A' (n + 1) c')) w') : o.wp P a w K Q := by
  obtain ⟨A', c', w', hr, g1, g2, g4⟩ := run_appendEK et o.type base v n es ho y ad h0 h1 h2 hy hf hlen hbase
  unfold Oper.wp execOp
  simp only [hop, resolve, invoke, builtin, Sem.run_bind, Sem.run_pure, Result.andThen_ok, List.map_toArray, List.map_cons, List.map_nil, hs, hx, hr]
  exact h A' c' w' g1 g2 g4
theorem wp_appendEK {P : Program} {t : TypeId} {w : World} {ops : Array Oper} {rest : List Oper} {o : Oper} {a : Act} {Q : Exit → Act → World → Prop} (et : EnT P t 26) (hg : o.guard = none) (s x : Operand) (hop : o.op = .call { callee := .builtin .append, args := #[s, x], argTypes := #[t, t] })
    (base : Nat) (v : Value) (n : Nat) (es : List EnX) (hs : a.eval s = v) (ho : EL w base v n es) (y : EnX) (ad : Addr) (hx : a.eval x = .slice (some ad) 1 1) (h0 : w.cell? (ad.add 0) = some (.int .u8 y.1.k)) (h1 : w.cell? (ad.add 1) = some (.slice y.2.KA y.1.K.length y.2.kc)) (h2 : w.cell? (ad.add 2) = some (.slice y.2.VA y.1.V.length y.2.vc)) (hy : EnOk w y.1 y.2) (hf : FarE base v y) (hlen : (n + 1) * 56 ≤ 140737488355328) (hbase : base ≤ w.heap.size)
    (h : ∀ A' c' w', EL w' base (.slice A' (n + 1) c') (n + 1) (es ++ [y]) → w.grownBy w' v.ownBlock → ((Value.slice A' (n + 1) c').ownBlock = v.ownBlock ∨ (Value.slice A' (n + 1) c').ownBlock = some w.heap.size) → wpList P ops Q rest (a.put o.dst (.slice A' (n + 1) c')) w') : wpList P ops Q (o :: rest) a w :=
  wpList_plain hg fun _ hK => op_appendEK et s x hop base v n es hs ho y ad hx h0 h1 h2 hy hf hlen hbase fun A' c' w' h1 h2 h3 => hK _ _ (h A' c' w' h1 h2 h3)
theorem step_appendEK {P : Program} {t : TypeId} {w : World} {ops : Array Oper} {o : Oper} {a : Act} {K : Act → World → Prop} {Q : Exit → Act → World → Prop} {E : Prop} (et : EnT P t 26) (hg : o.guard = none) (s x : Operand) (hop : o.op = .call { callee := .builtin .append, args := #[s, x], argTypes := #[t, t] })
    (base : Nat) (v : Value) (n : Nat) (es : List EnX) (hs : a.eval s = v) (ho : EL w base v n es) (y : EnX) (ad : Addr) (hx : a.eval x = .slice (some ad) 1 1) (h0 : w.cell? (ad.add 0) = some (.int .u8 y.1.k)) (h1 : w.cell? (ad.add 1) = some (.slice y.2.KA y.1.K.length y.2.kc)) (h2 : w.cell? (ad.add 2) = some (.slice y.2.VA y.1.V.length y.2.vc)) (hy : EnOk w y.1 y.2) (hf : FarE base v y) (hlen : (n + 1) * 56 ≤ 140737488355328) (hbase : base ≤ w.heap.size)
    (h : ∀ A' c' w', EL w' base (.slice A' (n + 1) c') (n + 1) (es ++ [y]) → w.grownBy w' v.ownBlock → ((Value.slice A' (n + 1) c').ownBlock = v.ownBlock ∨ (Value.slice A' (n + 1) c').ownBlock = some w.heap.size) → K (a.put o.dst (.slice A' (n + 1) c')) w') : if Region.wanted o (yielded ops a.tmps) = true then Oper.wp P o a w K Q else E := by
  have hw : Region.wanted o (yielded ops a.tmps) = true := by simp [Region.wanted, hg]
  rw [if_pos hw]
  exact op_appendEK et s x hop base v n es hs ho y ad hx h0 h1 h2 hy hf hlen hbase h
end Go.Proofs.Ytelecdncdaepnaa
