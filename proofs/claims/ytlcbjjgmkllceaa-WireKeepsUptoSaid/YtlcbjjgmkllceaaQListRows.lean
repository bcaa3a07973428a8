import Derived.Test.YtlcbjjgmkllceaaQApartLaws
/- Lists of lists of bytes, one behind the other, in a row of the call's own. -/
namespace Go.Proofs.Ytlcbjjgmkllceaa
open Go.RowKit

/-- a list of lists, in a row of the call's own -/
structure LL (w : World) (base : Nat) (v : Value) (hs : List Hd) : Prop where
  out : w.ownsRow base 23 1 v hs.length (hs.map Hd.val)
theorem LL.nil (w : World) (base : Nat) : LL w base (.slice none 0 0) [] := ⟨World.ownsRow_nil w base _ 1⟩
theorem LL.kept {w w' : World} {base : Nat} {v : Value} {hs : List Hd} (h : LL w base v hs) (hv : ∀ k, base ≤ k → k < w.heap.size → w'.heap[k]? = w.heap[k]?) : LL w' base v hs := by
  refine ⟨h.out.1, ?_⟩
  rcases h.out.2 with h1 | ⟨g, cap, cur, rfl, hb, hh, r⟩
  · exact .inl h1
  · exact .inr ⟨g, cap, cur, rfl, hb, (hv g hb (Array.getElem?_eq_some_iff.1 hh).1).trans hh, r⟩
theorem LL.new {w w' : World} {base : Nat} {v : Value} {hs : List Hd} (h : LL w base v hs) (hb : Below w.heap.size w w') : LL w' base v hs := h.kept fun k _ hk => hb.block k hk
theorem LL.mono {w : World} {base base' : Nat} {v : Value} {hs : List Hd} (h : LL w base v hs) (hb : base' ≤ base) : LL w base' v hs := by
  refine ⟨h.out.1, ?_⟩
  rcases h.out.2 with h1 | ⟨g, cap, cur, e1, hg, r⟩
  · exact .inl h1
  · exact .inr ⟨g, cap, cur, e1, Nat.le_trans hb hg, r⟩
theorem LL.form {w : World} {base : Nat} {v : Value} {hs : List Hd} (h : LL w base v hs) : ∃ A c, v = .slice A hs.length c := by
  rcases h.out.2 with ⟨rfl, hn⟩ | ⟨g, cap, cur, rfl, _⟩
  · exact ⟨none, 0, by rw [hn]⟩
  · exact ⟨_, _, rfl⟩
theorem LL.lt {w : World} {base : Nat} {v : Value} {hs : List Hd} (h : LL w base v hs) : ∀ k, v.ownBlock = some k → base ≤ k ∧ k < w.heap.size := h.out.lt
theorem LL.cell {w : World} {base n c : Nat} {A : Option Addr} {hs : List Hd} (h : LL w base (.slice A n c) hs) (i : Nat) (x : Hd) (hx : hs[i]? = some x) : ∃ b : Addr, A = some b ∧ w.cell? (b.add i) = some x.val ∧ base ≤ b.block ∧ b.block < w.heap.size := by
  have hi := (List.getElem?_eq_some_iff.1 hx).1
  obtain ⟨g, cap, e, hb, hg⟩ := World.ownsRow.form h.out (by omega)
  injection e with e1 e2 e3
  subst e1; subst e3
  refine ⟨_, rfl, ?_, hb, hg⟩
  exact World.ownsRow.cells h.out (g := g) rfl i x.val (by simp [hx])
/-- append(v, x...) of a list of lists -/
theorem run_appendLL {P : Program} {t : TypeId} {w : World} (lt : LsT P t 23) (ty : TypeId) (base : Nat) (v : Value) (gs ys : List Hd) (ho : LL w base v gs) (A : Option Addr) (m c : Nat) (hm : m = ys.length) (hc : ∀ (i : Nat) (y : Hd), ys[i]? = some y → ∃ b : Addr, A = some b ∧ w.cell? (b.add i) = some y.val) (hz : A = none → c = 0) (hlen : (gs.length + ys.length) * 24 ≤ 140737488355328) (hbase : base ≤ w.heap.size) :
    ∃ v' w', (Builtin.append_ #[t, t] ty #[v, .slice A m c]).run P w = .ok v' w' ∧ LL w' base v' (gs ++ ys) ∧ w.grownBy w' v.ownBlock := by
  obtain ⟨i, hi, hzz, hsz, hb⟩ := info_parts lt.info
  subst hm
  cases A with
  | none =>
    have hy : ys = [] := by
      cases ys with
      | nil => rfl
      | cons y ys => obtain ⟨b, e, _⟩ := hc 0 y rfl; cases e
    subst hy
    have hc0 := hz rfl
    subst hc0
    exact ⟨v, w, run_append_owned_none (P := P) (w := w) base t ty 23 i 1 lt.sl hi v gs.length (gs.map Hd.val) ho.out, by rw [List.append_nil]; exact ho, ⟨rfl, rfl, rfl, Nat.le_refl _, fun _ _ _ => rfl⟩⟩
  | some ad =>
    obtain ⟨v', w', hr, h1, h2, _, _⟩ := Go.run_append_own_at (P := P) (w := w) base t ty 23 i _ 1 24 lt.sl hi hzz hsz hb rfl (by decide) v gs.length (gs.map Hd.val) ho.out ad ys.length c (ys.map Hd.val) (by simp) (fun j u hu => by
      rw [List.getElem?_map] at hu
      cases hy : ys[j]? with
      | none => rw [hy] at hu; cases hu
      | some y =>
        rw [hy] at hu
        obtain ⟨b, e1, e2⟩ := hc j y hy
        obtain rfl := Option.some.inj e1
        rw [e2]; exact hu) (fun u hu => by
      obtain ⟨y, _, rfl⟩ := List.mem_map.1 hu
      rfl) (by unfold maxLen; omega) hlen hbase
    exact ⟨v', w', hr, ⟨by simpa using h1⟩, h2⟩
theorem op_appendLL {P : Program} {t : TypeId} {w : World} {o : Oper} {a : Act} {K : Act → World → Prop} {Q : Exit → Act → World → Prop} (lt : LsT P t 23) (s x : Operand) (hop : o.op = .call { callee := .builtin .append, args := #[s, x], argTypes := #[t, t] })
    (base : Nat) (v : Value) (gs ys : List Hd) (hs : a.eval s = v) (ho : LL w base v gs) (A : Option Addr) (m c : Nat) (hx : a.eval x = .slice A m c) (hm : m = ys.length) (hc : ∀ (i : Nat) (y : Hd), ys[i]? = some y → ∃ b : Addr, A = some b ∧ w.cell? (b.add i) = some y.val) (hz : A = none → c = 0) (hlen : (gs.length + ys.length) * 24 ≤ 140737488355328) (hbase : base ≤ w.heap.size)
    (h : ∀ A' n' c' w', n' = (gs ++ ys).length → LL w' base (.slice A' n' c') (gs ++ ys) → w.grownBy w' v.ownBlock → K (a.put o.dst (.slice A' n' c')) w') : o.wp P a w K Q := by
  obtain ⟨v', w', hr, h1, h2⟩ := run_appendLL lt o.type base v gs ys ho A m c hm hc hz hlen hbase
  obtain ⟨A', c', rfl⟩ := h1.form
  unfold Oper.wp execOp
  simp only [hop, resolve, invoke, builtin, Sem.run_bind, Sem.run_pure, Result.andThen_ok, List.map_toArray, List.map_cons, List.map_nil, hs, hx, hr]
  exact h A' _ c' w' rfl h1 h2
theorem wp_appendLL {P : Program} {t : TypeId} {w : World} {ops : Array Oper} {rest : List Oper} {o : Oper} {a : Act} {Q : Exit → Act → World → Prop} (lt : LsT P t 23) (hg : o.guard = none) (s x : Operand) (hop : o.op = .call { callee := .builtin .append, args := #[s, x], argTypes := #[t, t] })
    (base : Nat) (v : Value) (gs ys : List Hd) (hs : a.eval s = v) (ho : LL w base v gs) (A : Option Addr) (m c : Nat) (hx : a.eval x = .slice A m c) (hm : m = ys.length) (hc : ∀ (i : Nat) (y : Hd), ys[i]? = some y → ∃ b : Addr, A = some b ∧ w.cell? (b.add i) = some y.val) (hz : A = none → c = 0) (hlen : (gs.length + ys.length) * 24 ≤ 140737488355328) (hbase : base ≤ w.heap.size)
    (h : ∀ A' n' c' w', n' = (gs ++ ys).length → LL w' base (.slice A' n' c') (gs ++ ys) → w.grownBy w' v.ownBlock → wpList P ops Q rest (a.put o.dst (.slice A' n' c')) w') : wpList P ops Q (o :: rest) a w :=
  wpList_plain hg fun _ hK => op_appendLL lt s x hop base v gs ys hs ho A m c hx hm hc hz hlen hbase fun A' n' c' w' h1 h2 h3 => hK _ _ (h A' n' c' w' h1 h2 h3)
theorem step_appendLL {P : Program} {t : TypeId} {w : World} {ops : Array Oper} {o : Oper} {a : Act} {K : Act → World → Prop} {Q : Exit → Act → World → Prop} {E : Prop} (lt : LsT P t 23) (hg : o.guard = none) (s x : Operand) (hop : o.op = .call { callee := .builtin .append, args := #[s, x], argTypes := #[t, t] })
    (base : Nat) (v : Value) (gs ys : List Hd) (hs : a.eval s = v) (ho : LL w base v gs) (A : Option Addr) (m c : Nat) (hx : a.eval x = .slice A m c) (hm : m = ys.length) (hc : ∀ (i : Nat) (y : Hd), ys[i]? = some y → ∃ b : Addr, A = some b ∧ w.cell? (b.add i) = some y.val) (hz : A = none → c = 0) (hlen : (gs.length + ys.length) * 24 ≤ 140737488355328) (hbase : base ≤ w.heap.size)
    (h : ∀ A' n' c' w', n' = (gs ++ ys).length → LL w' base (.slice A' n' c') (gs ++ ys) → w.grownBy w' v.ownBlock → K (a.put o.dst (.slice A' n' c')) w') : if Region.wanted o (yielded ops a.tmps) = true then Oper.wp P o a w K Q else E := by
  have hw : Region.wanted o (yielded ops a.tmps) = true := by simp [Region.wanted, hg]
  rw [if_pos hw]
  exact op_appendLL lt s x hop base v gs ys hs ho A m c hx hm hc hz hlen hbase h
theorem LL.none0 {w : World} {base n c : Nat} {hs : List Hd} (h : LL w base (.slice none n c) hs) : c = 0 := by
  rcases h.out.2 with ⟨e, _⟩ | ⟨g, cap, cur, e, _⟩
  · injection e
  · injection e with e1; cases e1
theorem cell_at_new (w : World) (v : Value) (t : TypeId) (k : Nat) (hk : w.heap.size = k) : (w.alloc (.cells #[v] t)).cell? ((⟨k, 0, none⟩ : Addr).add 0) = some v := by
  subst hk
  exact cell_one_new w v t 0 v rfl
/-- likewise, and where the row has gone -/
theorem run_appendLK {P : Program} {t : TypeId} {w : World} (lt : LsT P t 23) (ty : TypeId) (base : Nat) (v : Value) (gs ys : List Hd) (ho : LL w base v gs) (A : Option Addr) (m c : Nat) (hm : m = ys.length) (hc : ∀ (i : Nat) (y : Hd), ys[i]? = some y → ∃ b : Addr, A = some b ∧ w.cell? (b.add i) = some y.val) (hz : A = none → c = 0) (hlen : (gs.length + ys.length) * 24 ≤ 140737488355328) (hbase : base ≤ w.heap.size) :
    ∃ v' w', (Builtin.append_ #[t, t] ty #[v, .slice A m c]).run P w = .ok v' w' ∧ LL w' base v' (gs ++ ys) ∧ w.grownBy w' v.ownBlock ∧ ((v'.ownBlock = v.ownBlock) ∨ v'.ownBlock = some w.heap.size) := by
  obtain ⟨i, hi, hzz, hsz, hb⟩ := info_parts lt.info
  subst hm
  cases A with
  | none =>
    have hy : ys = [] := by
      cases ys with
      | nil => rfl
      | cons y ys => obtain ⟨b, e, _⟩ := hc 0 y rfl; cases e
    subst hy
    have hc0 := hz rfl
    subst hc0
    exact ⟨v, w, run_append_owned_none (P := P) (w := w) base t ty 23 i 1 lt.sl hi v gs.length (gs.map Hd.val) ho.out, by rw [List.append_nil]; exact ho, ⟨rfl, rfl, rfl, Nat.le_refl _, fun _ _ _ => rfl⟩, .inl rfl⟩
  | some ad =>
    obtain ⟨v', w', hr, h1, h2, _, h4⟩ := Go.run_append_own_at (P := P) (w := w) base t ty 23 i _ 1 24 lt.sl hi hzz hsz hb rfl (by decide) v gs.length (gs.map Hd.val) ho.out ad ys.length c (ys.map Hd.val) (by simp) (fun j u hu => by
      rw [List.getElem?_map] at hu
      cases hy : ys[j]? with
      | none => rw [hy] at hu; cases hu
      | some y =>
        rw [hy] at hu
        obtain ⟨b, e1, e2⟩ := hc j y hy
        obtain rfl := Option.some.inj e1
        rw [e2]; exact hu) (fun u hu => by
      obtain ⟨y, _, rfl⟩ := List.mem_map.1 hu
      rfl) (by unfold maxLen; omega) hlen hbase
    exact ⟨v', w', hr, ⟨by simpa using h1⟩, h2, h4⟩
theorem op_appendLK {P : Program} {t : TypeId} {w : World} {o : Oper} {a : Act} {K : Act → World → Prop} {Q : Exit → Act → World → Prop} (lt : LsT P t 23) (s x : Operand) (hop : o.op = .call { callee := .builtin .append, args := #[s, x], argTypes := #[t, t] })
    (base : Nat) (v : Value) (gs ys : List Hd) (hs : a.eval s = v) (ho : LL w base v gs) (A : Option Addr) (m c : Nat) (hx : a.eval x = .slice A m c) (hm : m = ys.length) (hc : ∀ (i : Nat) (y : Hd), ys[i]? = some y → ∃ b : Addr, A = some b ∧ w.cell? (b.add i) = some y.val) (hz : A = none → c = 0) (hlen : (gs.length + ys.length) * 24 ≤ 140737488355328) (hbase : base ≤ w.heap.size)
    (h : ∀ A' n' c' w', n' = (gs ++ ys).length → LL w' base (.slice A' n' c') (gs ++ ys) → w.grownBy w' v.ownBlock → ((Value.slice A' n' c').ownBlock = v.ownBlock ∨ (Value.slice A' n' c').ownBlock = some w.heap.size) → K (a.put o.dst (.slice A' n' c')) w') : o.wp P a w K Q := by
  obtain ⟨v', w', hr, h1, h2, h4⟩ := run_appendLK lt o.type base v gs ys ho A m c hm hc hz hlen hbase
  obtain ⟨A', c', rfl⟩ := h1.form
  unfold Oper.wp execOp
  simp only [hop, resolve, invoke, builtin, Sem.run_bind, Sem.run_pure, Result.andThen_ok, List.map_toArray, List.map_cons, List.map_nil, hs, hx, hr]
  exact h A' _ c' w' rfl h1 h2 h4
theorem wp_appendLK {P : Program} {t : TypeId} {w : World} {ops : Array Oper} {rest : List Oper} {o : Oper} {a : Act} {Q : Exit → Act → World → Prop} (lt : LsT P t 23) (hg : o.guard = none) (s x : Operand) (hop : o.op = .call { callee := .builtin .append, args := #[s, x], argTypes := #[t, t] })
    (base : Nat) (v : Value) (gs ys : List Hd) (hs : a.eval s = v) (ho : LL w base v gs) (A : Option Addr) (m c : Nat) (hx : a.eval x = .slice A m c) (hm : m = ys.length) (hc : ∀ (i : Nat) (y : Hd), ys[i]? = some y → ∃ b : Addr, A = some b ∧ w.cell? (b.add i) = some y.val) (hz : A = none → c = 0) (hlen : (gs.length + ys.length) * 24 ≤ 140737488355328) (hbase : base ≤ w.heap.size)
    (h : ∀ A' n' c' w', n' = (gs ++ ys).length → LL w' base (.slice A' n' c') (gs ++ ys) → w.grownBy w' v.ownBlock → ((Value.slice A' n' c').ownBlock = v.ownBlock ∨ (Value.slice A' n' c').ownBlock = some w.heap.size) → wpList P ops Q rest (a.put o.dst (.slice A' n' c')) w') : wpList P ops Q (o :: rest) a w :=
  wpList_plain hg fun _ hK => op_appendLK lt s x hop base v gs ys hs ho A m c hx hm hc hz hlen hbase fun A' n' c' w' h1 h2 h3 h4 => hK _ _ (h A' n' c' w' h1 h2 h3 h4)
theorem step_appendLK {P : Program} {t : TypeId} {w : World} {ops : Array Oper} {o : Oper} {a : Act} {K : Act → World → Prop} {Q : Exit → Act → World → Prop} {E : Prop} (lt : LsT P t 23) (hg : o.guard = none) (s x : Operand) (hop : o.op = .call { callee := .builtin .append, args := #[s, x], argTypes := #[t, t] })
    (base : Nat) (v : Value) (gs ys : List Hd) (hs : a.eval s = v) (ho : LL w base v gs) (A : Option Addr) (m c : Nat) (hx : a.eval x = .slice A m c) (hm : m = ys.length) (hc : ∀ (i : Nat) (y : Hd), ys[i]? = some y → ∃ b : Addr, A = some b ∧ w.cell? (b.add i) = some y.val) (hz : A = none → c = 0) (hlen : (gs.length + ys.length) * 24 ≤ 140737488355328) (hbase : base ≤ w.heap.size)
    (h : ∀ A' n' c' w', n' = (gs ++ ys).length → LL w' base (.slice A' n' c') (gs ++ ys) → w.grownBy w' v.ownBlock → ((Value.slice A' n' c').ownBlock = v.ownBlock ∨ (Value.slice A' n' c').ownBlock = some w.heap.size) → K (a.put o.dst (.slice A' n' c')) w') : if Region.wanted o (yielded ops a.tmps) = true then Oper.wp P o a w K Q else E := by
  have hw : Region.wanted o (yielded ops a.tmps) = true := by simp [Region.wanted, hg]
  rw [if_pos hw]
  exact op_appendLK lt s x hop base v gs ys hs ho A m c hx hm hc hz hlen hbase h
end Go.Proofs.Ytlcbjjgmkllceaa
