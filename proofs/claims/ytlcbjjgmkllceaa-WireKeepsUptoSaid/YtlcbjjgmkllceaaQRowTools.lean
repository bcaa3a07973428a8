import Derived.Test.YtlcbjjgmkllceaaQBf
/- Rows of the call's own, of any element type: append, apartness. -/
namespace Go.Proofs.Ytlcbjjgmkllceaa
open Go.RowKit

/-- an element type, and the type of its slices -/
structure ElT (P : Program) (t e : TypeId) (z : Value) (size bytes : Nat) : Prop where
  sl : P.underlying t = some (.slice e)
  info : (P.info? e).map (fun i => (i.zero, i.size, i.bytes)) = some (some z, size, bytes)
  zs : z.cells.size = size
  pos : 0 < size
theorem own_new {w w' : World} {base e size n : Nat} {v : Value} {xs : List Value} (h : w.ownsRow base e size v n xs) (hb : Below w.heap.size w w') : w'.ownsRow base e size v n xs :=
  h.kept (grown_of_below hb none) (by cases v.ownBlock <;> simp)
theorem own_form {w : World} {base e size n : Nat} {v : Value} {xs : List Value} (h : w.ownsRow base e size v n xs) : ∃ A c, v = .slice A n c := by
  rcases h.2 with ⟨rfl, hn⟩ | ⟨g, cap, cur, rfl, _⟩
  · exact ⟨none, 0, by rw [hn]⟩
  · exact ⟨_, _, rfl⟩
theorem own_at {w : World} {base e size n : Nat} {v : Value} {xs : List Value} (h : w.ownsRow base e size v n xs) (i : Nat) (x : Value) (hx : xs[i]? = some x) : ∃ g c, v = .slice (some ⟨g, 0, none⟩) n c ∧ base ≤ g ∧ w.cell? ⟨g, i, none⟩ = some x := by
  rcases h.2 with ⟨rfl, hn⟩ | ⟨g, cap, cur, rfl, hb, _⟩
  · have h1 := h.1
    have := (List.getElem?_eq_some_iff.1 hx).1
    rw [h1, hn] at this
    omega
  · have := h.cells (g := g) rfl i x hx
    rw [show (⟨g, 0, none⟩ : Addr).add i = ⟨g, i, none⟩ by unfold Addr.add; split <;> simp_all] at this
    exact ⟨g, cap, rfl, hb, this⟩
/-- append(v, x..) of one-cell parts -/
theorem wp_appendG {P : Program} {t e : TypeId} {z : Value} {size bytes : Nat} {w : World} {ops : Array Oper} {rest : List Oper} {o : Oper} {a : Act} {Q : Exit → Act → World → Prop} (et : ElT P t e z size bytes) (hg : o.guard = none) (s x : Operand) (hop : o.op = .call { callee := .builtin .append, args := #[s, x], argTypes := #[t, t] })
    (base : Nat) (v : Value) (n : Nat) (xs : List Value) (hs : a.eval s = v) (ho : w.ownsRow base e size v n xs) (ad : Addr) (m c : Nat) (ys : List Value) (hx : a.eval x = .slice (some ad) m c) (hl : ys.length = m * size) (hc : ∀ j u, ys[j]? = some u → w.cell? (ad.add j) = some u) (h1 : ∀ u ∈ ys, u.oneCell' = true)
    (hlen : (n + m) * bytes ≤ 140737488355328) (hb1 : 1 ≤ bytes) (hbase : base ≤ w.heap.size)
    (h : ∀ A' c' w', w'.ownsRow base e size (.slice A' (n + m) c') (n + m) (xs ++ ys) → w.grownBy w' v.ownBlock → ((Value.slice A' (n + m) c').ownBlock = v.ownBlock ∨ (Value.slice A' (n + m) c').ownBlock = some w.heap.size) → wpList P ops Q rest (a.put o.dst (.slice A' (n + m) c')) w') : wpList P ops Q (o :: rest) a w := by
  obtain ⟨i, hi, hz, hsz, hb⟩ := info_parts et.info
  have hnm : n + m ≤ maxLen := by
    have := Nat.le_mul_of_pos_right (n + m) hb1
    unfold maxLen; omega
  refine Go.wpList_append_own_at (w := w) hg s x t hop base e i z size bytes et.sl hi hz hsz hb et.zs et.pos v n xs hs ho ad m c ys hx hl hc h1 hnm hlen hbase fun v' w' h2 h3 _ h4 => ?_
  obtain ⟨A', c', rfl⟩ := own_form h2
  exact h A' c' w' h2 h3 h4
theorem apart_step {w : World} {u v v' : Value} (h : apartV u v) (hu : ∀ k, u.ownBlock = some k → k < w.heap.size) (hv : v'.ownBlock = v.ownBlock ∨ v'.ownBlock = some w.heap.size) : apartV u v' := by
  rcases hv with e | e
  · unfold apartV at h ⊢; rw [e]; exact h
  · by_cases hn : u.ownBlock = none
    · exact .inl hn
    · refine .inr fun e2 => ?_
      have := hu _ (e2.trans e)
      omega
theorem keep_of {u v : Value} (h : apartV u v) : u.ownBlock = none ∨ u.ownBlock ≠ v.ownBlock := h
end Go.Proofs.Ytlcbjjgmkllceaa
