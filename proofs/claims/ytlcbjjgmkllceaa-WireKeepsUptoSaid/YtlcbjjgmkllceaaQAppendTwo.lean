import Derived.Test.YtlcbjjgmkllceaaQBa
import Derived.Maps.AppendAt
/- append onto bytes of the call's own: in place, or in a new block with the old one as it was. -/
namespace Go.Proofs.Ytlcbjjgmkllceaa
open Go.RowKit

theorem OB.pre {w : World} {base e g n cap : Nat} {p q : List UInt8} (h : OB w base e (.slice (some ⟨g, 0, none⟩) (p ++ q).length cap) (p ++ q)) (hn : n = p.length) : OB w base e (.slice (some ⟨g, 0, none⟩) n cap) p := by
  subst hn
  rcases h.out.2 with ⟨h0, _⟩ | ⟨g', cap', cur, hv, hb, hh, hn, hc, hs, ht⟩
  · exact absurd h0 (by simp)
  · injection hv with e1 e2 e3
    injection e1 with e1
    injection e1 with e1
    subst e1; subst e3
    rw [List.length_append] at hn
    refine ⟨by simp [encB], .inr ⟨g, cap, cur, rfl, hb, hh, by omega, hc, hs, ?_⟩⟩
    have := congrArg (List.take (p.length * 1)) ht
    rw [List.take_take, encB_append, List.take_left' (by simp [encB]), List.length_append] at this
    rw [← this]
    congr 1
    omega

/-- append(v, x...): in place or anew -/
theorem wp_appendB_two {P : Program} {t e : TypeId} {w : World} {ops : Array Oper} {rest : List Oper} {o : Oper} {a : Act} {Q : Exit → Act → World → Prop} (bt : ByteT P t e) (hg : o.guard = none) (s x : Operand) (hop : o.op = .call { callee := .builtin .append, args := #[s, x], argTypes := #[t, t] })
    (base : Nat) (A0 : Option Addr) (n0 c0 : Nat) (p : List UInt8) (hs : a.eval s = .slice A0 n0 c0) (hn0 : n0 = p.length) (ho : OB w base e (.slice A0 n0 c0) p) (A : Option Addr) (q : List UInt8) (n c : Nat) (hx : a.eval x = .slice A n c) (hn : n = q.length) (hq : RB w A c q)
    (hlen : p.length + q.length ≤ 140737488355328) (hbase : base ≤ w.heap.size) (r : List UInt8) (hr : p ++ q = r)
    (h : ∀ A' c' w', OB w' base e (.slice A' r.length c') r → ((A' = A0 ∧ c' = c0 ∧ w.grownBy w' (Value.slice A0 n0 c0).ownBlock) ∨ ((Value.slice A' r.length c').ownBlock = some w.heap.size ∧ Below w.heap.size w w')) → wpList P ops Q rest (a.put o.dst (.slice A' r.length c')) w') : wpList P ops Q (o :: rest) a w := by
  subst hn; subst hr; subst hn0
  obtain ⟨i, hi, hz, hsz, hb⟩ := info_parts bt.info
  have hstay : q = [] → wpList P ops Q rest (a.put o.dst (.slice A0 p.length c0)) w := by
    intro hq0
    subst hq0
    have h' := h A0 c0 w (by simpa using ho) (.inl ⟨rfl, rfl, ⟨rfl, rfl, rfl, Nat.le_refl _, fun _ _ _ => rfl⟩⟩)
    simpa using h'
  cases A with
  | none =>
    obtain ⟨rfl, rfl⟩ := hq.nil rfl
    exact wpList_append_own_none hg s x t hop base e i 1 bt.sl hi _ p.length (encB p) hs ho.out hx (hstay rfl)
  | some ad =>
    refine wpList_plain hg fun K hK => ?_
    have hfin : ∀ v' w', (Builtin.append_ #[t, t] o.type #[.slice A0 p.length c0, .slice (some ad) q.length c]).run P w = .ok v' w' → wpList P ops Q rest (a.put o.dst v') w' → Oper.wp P o a w K Q := by
      intro v' w' hr hw
      unfold Oper.wp execOp
      simp only [hop, resolve, invoke, builtin, Sem.run_bind, Sem.run_pure, Result.andThen_ok, List.map_toArray, List.map_cons, List.map_nil, hs, hx, hr]
      exact hK _ _ hw
    have hl : (encB q).length = q.length * 1 := by rw [encB_length, Nat.mul_one]
    have hsp : ∀ k, k = p.length + q.length → (encB (p ++ q)).length = k * 1 := fun k hk => by rw [encB_length, List.length_append, hk, Nat.mul_one]
    have hsmall : p.length + q.length ≤ 9223372036854775807 := by omega
    -- what a new block holds
    have grown : ∀ old, old < p.length + q.length → OB (w.drew.alloc (.cells ((encB p).toArray ++ (encB q).toArray ++ Builtin.zeroCells (Value.int .u8 0).cells (grownCap w (p.length + q.length) old e - (p.length + q.length))) e)) base e
        (.slice (some ⟨w.heap.size, 0, none⟩) (p ++ q).length (grownCap w (p.length + q.length) old e)) (p ++ q) := by
      intro old ho2
      have hge := grownCap_ge w (p.length + q.length) old e
      have hcm : grownCap w (p.length + q.length) old e ≤ maxLen := grownCap_le_maxLen w (p.length + q.length) old e (by unfold maxLen; omega)
      refine ⟨by simp [encB], .inr ⟨w.heap.size, _, _, rfl, hbase, heap_alloc_new w.drew _, by rw [List.length_append]; exact hge, hcm, ?_, ?_⟩⟩
      · simp only [Array.size_append, List.size_toArray, size_zeroCells, encB_length, Value.cells]
        simp
        omega
      · simp only [Array.toList_append, List.append_assoc]
        rw [← List.append_assoc, ← encB_append]
        exact List.take_left' (by rw [encB_length, Nat.mul_one])
    have hbel : ∀ ob, Below w.heap.size w (w.drew.alloc ob) := fun ob => ⟨rfl, rfl, rfl, by simp, fun k hk => Below.heap_alloc w.drew ob k hk⟩
    rcases ho.out.2 with ⟨h0, hp0⟩ | ⟨g, cap, cur, hv, hbg, hh, hnc, hcm, hcs, htake⟩
    · injection h0 with e1 e2 e3
      subst e1; subst e3
      have hp : p = [] := List.eq_nil_of_length_eq_zero hp0
      subst hp
      by_cases hq0 : q = []
      · subst hq0
        refine hfin (.slice none 0 0) w ?_ (hstay rfl)
        simp [Builtin.append_, run_underlying bt.sl, sizeOf, typeInfo, hi, Builtin.lenOf, Builtin.firstCells, loadCells, loadCellsFrom]
      have hqp : 0 < q.length := List.length_pos_iff.2 hq0
      have hr := run_append_nil (P := P) w t o.type e i (.int .u8 0) bt.sl hi hz ad q.length c (encB q) (by rw [hsz]; exact hl) hq.cells (by omega) (by omega) (by rw [hb]; omega)
      refine hfin _ _ hr ?_
      have hgr := grown 0 (by omega)
      have e0 : (encB ([] : List UInt8)).toArray = #[] := rfl
      simp only [List.length_nil, Nat.zero_add, List.nil_append, e0, Array.empty_append] at hgr
      refine h _ _ _ ?_ (.inr ⟨rfl, hbel _⟩)
      exact hgr
    · injection hv with e1 e2 e3
      subst e1; subst e3
      by_cases hroom : p.length + q.length ≤ c0
      · have hfit : p.length * i.size + (encB q).length ≤ cur.size := by rw [hsz, hl, hcs]; omega
        have hr := run_append_room (P := P) w t o.type e i bt.sl hi g p.length c0 cur hh ad q.length c (encB q) (by rw [hsz]; exact hl) hq.cells (encB_one q) hroom hfit
        refine hfin _ _ hr ?_
        rw [← List.length_append]
        refine h _ _ _ ⟨by simp [encB], .inr ⟨g, c0, _, rfl, hbg, setRow_heap w g cur _ e _ hh, by rw [List.length_append]; exact hroom, hcm, ?_, ?_⟩⟩ (.inl ⟨rfl, rfl, ⟨rfl, rfl, rfl, by simp, fun k _ hk => setRow_other w g k _ (fun e => hk (by simp [Value.ownBlock, e]))⟩⟩)
        · simp only [List.size_toArray, List.length_append, List.length_take, List.length_drop, Array.length_toList]
          rw [hsz] at hfit ⊢
          omega
        · rw [hsz, htake, encB_append]
          exact List.take_left' (by simp [encB])
      · have holds : ∀ j u, (encB p)[j]? = some u → w.cell? ((⟨g, 0, none⟩ : Addr).add j) = some u := ho.out.cells (g := g) rfl
        have hr := run_append_grow (P := P) w t o.type e i (.int .u8 0) bt.sl hi hz ⟨g, 0, none⟩ p.length c0 (encB p) (by rw [hsz, encB_length, Nat.mul_one]) holds ad q.length c (encB q) (by rw [hsz]; exact hl) hq.cells (by omega) (by omega) (growslice_fits (by omega) (by rw [hb]; omega))
        refine hfin _ _ hr ?_
        have hgr := grown c0 (by omega)
        rw [← List.length_append] at hgr ⊢
        exact h _ _ _ hgr (.inr ⟨rfl, hbel _⟩)
end Go.Proofs.Ytlcbjjgmkllceaa
