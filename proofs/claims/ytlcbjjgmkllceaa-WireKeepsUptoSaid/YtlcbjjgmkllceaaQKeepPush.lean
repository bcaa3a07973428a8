import Derived.Test.YtlcbjjgmkllceaaQKeepLists
/- WireKeeps: two lists more are told; Quad's store. -/
namespace Go.Proofs.Ytlcbjjgmkllceaa
open Go.RowKit

theorem TL.pushT {w0 w w' : World} {va vt vw vt' : Value} {Y : List UInt8} {hs gs : List Hd} {ps qs : List (List UInt8)} {a b : Hd} {p q : List UInt8} (h : TL w0 w va vt vw Y hs gs ps qs)
    (hl : LL w' w0.heap.size vt' (hs ++ [a, b])) (hg : w.grownBy w' vt.ownBlock) (hv : vt'.ownBlock = vt.ownBlock ∨ vt'.ownBlock = some w.heap.size)
    (ha : OB w w0.heap.size 5 a.val p) (hb : OB w w0.heap.size 5 b.val q) (na : ∀ k, a.val.ownBlock = some k → ¬ TLb va vt vw hs gs k) (nb : ∀ k, b.val.ownBlock = some k → ¬ TLb va vt vw hs gs k) (hab : apV a.val b.val) :
    TL w0 w' va vt' vw Y (hs ++ [a, b]) gs (ps ++ [p, q]) qs := by
  have hlt := h.lt
  have kb : ∀ k, k < w.heap.size ∧ vt.ownBlock ≠ some k → w'.heap[k]? = w.heap[k]? := fun k h1 => hg.block k h1.1 (fun e => h1.2 e.symm)
  have nv : ∀ (u : Value), (∀ k, u.ownBlock = some k → k < w.heap.size ∧ vt.ownBlock ≠ some k) → ∀ k, vt'.ownBlock = some k → u.ownBlock ≠ some k := by
    intro u hu k hk e
    rcases hv with e1 | e1
    · exact (hu k e).2 (e1 ▸ hk)
    · have := (hu k e).1; rw [hk] at e1; injection e1 with e1; omega
  have fa : ∀ k, va.ownBlock = some k → k < w.heap.size ∧ vt.ownBlock ≠ some k := fun k e => ⟨(hlt k (.inl e)).2, fun e2 => (h.dt k e2).1 e⟩
  have fw : ∀ k, vw.ownBlock = some k → k < w.heap.size ∧ vt.ownBlock ≠ some k := fun k e => ⟨(hlt k (.inr (.inr (.inl e)))).2, fun e2 => (h.dt k e2).2.1 e⟩
  have fg : ∀ x ∈ gs, ∀ k, x.val.ownBlock = some k → k < w.heap.size ∧ vt.ownBlock ≠ some k := fun x hx k e => ⟨(hlt k (.inr (.inr (.inr (.inr ⟨x, hx, e⟩))))).2, fun e2 => (h.dt k e2).2.2.2 x hx e⟩
  have fA : ∀ k, a.val.ownBlock = some k → k < w.heap.size ∧ vt.ownBlock ≠ some k := fun k e => ⟨(ha.at_base k e).2, fun e2 => na k e (.inr (.inl e2))⟩
  have fB : ∀ k, b.val.ownBlock = some k → k < w.heap.size ∧ vt.ownBlock ≠ some k := fun k e => ⟨(hb.at_base k e).2, fun e2 => nb k e (.inr (.inl e2))⟩
  have fh : ∀ x ∈ hs ++ [a, b], ∀ k, x.val.ownBlock = some k → k < w.heap.size ∧ vt.ownBlock ≠ some k := by
    intro x hx k e
    rcases List.mem_append.1 hx with hx | hx
    · exact ⟨(hlt k (.inr (.inr (.inr (.inl ⟨x, hx, e⟩))))).2, fun e2 => (h.dt k e2).2.2.1 x hx e⟩
    · rcases List.mem_cons.1 hx with rfl | hx
      · exact fA k e
      · obtain rfl := List.mem_singleton.1 hx; exact fB k e
  -- the new ones are none of the old
  have old : ∀ (u : Value), (∀ k, u.ownBlock = some k → TLb va vt vw hs gs k) → ∀ x ∈ [a, b], ∀ k, u.ownBlock = some k → x.val.ownBlock ≠ some k := by
    intro u hu x hx k e e2
    rcases List.mem_cons.1 hx with rfl | hx
    · exact na k e2 (hu k e)
    · obtain rfl := List.mem_singleton.1 hx; exact nb k e2 (hu k e)
  refine ⟨h.all.sameK fun k e => kb k (fa k e), hl, h.was.sameK fun k e => kb k (fw k e), by simp [h.hl], h.gl, fun i x p' hx hp => ?_, fun i x p' hx hp => (h.go i x p' hx hp).sameK fun k e => kb k (fg x (List.mem_of_getElem? hx) k e), ?_, fun k e => ⟨nv va fa k e, nv vw fw k e, fun x hx => nv x.val (fh x hx) k e, fun x hx => nv x.val (fg x hx) k e⟩, fun k e => ⟨(h.dw k e).1, fun x hx => ?_, (h.dw k e).2.2⟩, fun k e x hx => ?_⟩
  · have hk := fh x (List.mem_of_getElem? hx)
    rcases pair2 (m := hs) rfl hx with ⟨h1, h2⟩ | ⟨h1, rfl⟩ | ⟨h1, rfl⟩ <;> rcases pair2 h.hl hp with ⟨g1, g2⟩ | ⟨g1, rfl⟩ | ⟨g1, rfl⟩ <;> first | omega | skip
    · exact (h.ho i x p' h1 g1).sameK fun k e => kb k (hk k e)
    · exact ha.sameK fun k e => kb k (hk k e)
    · exact hb.sameK fun k e => kb k (hk k e)
  · refine List.pairwise_append.2 ⟨h.ap, by simp [hab], fun x hx y hy => ?_⟩
    by_cases hn : x.val.ownBlock = none
    · exact .inl hn
    · refine .inr fun e => ?_
      obtain ⟨k, hk⟩ := Option.ne_none_iff_exists'.1 hn
      exact old x.val (fun k' hk' => .inr (.inr (.inr (.inl ⟨x, hx, hk'⟩)))) y hy k hk (e ▸ hk)
  · rcases List.mem_append.1 hx with hx | hx
    · exact (h.dw k e).2.1 x hx
    · exact old vw (fun k' hk' => .inr (.inr (.inl hk'))) x hx k e
  · rcases List.mem_append.1 hx with hx | hx
    · exact h.da k e x hx
    · exact old va (fun k' hk' => .inl hk') x hx k e
theorem TL.pushW {w0 w w' : World} {va vt vw vw' : Value} {Y : List UInt8} {hs gs : List Hd} {ps qs : List (List UInt8)} {a b : Hd} {p q : List UInt8} (h : TL w0 w va vt vw Y hs gs ps qs)
    (hl : LL w' w0.heap.size vw' (gs ++ [a, b])) (hg : w.grownBy w' vw.ownBlock) (hv : vw'.ownBlock = vw.ownBlock ∨ vw'.ownBlock = some w.heap.size)
    (ha : OB w w0.heap.size 5 a.val p) (hb : OB w w0.heap.size 5 b.val q) (na : ∀ k, a.val.ownBlock = some k → ¬ TLb va vt vw hs gs k) (nb : ∀ k, b.val.ownBlock = some k → ¬ TLb va vt vw hs gs k) :
    TL w0 w' va vt vw' Y hs (gs ++ [a, b]) ps (qs ++ [p, q]) := by
  have hlt := h.lt
  have kb : ∀ k, k < w.heap.size ∧ vw.ownBlock ≠ some k → w'.heap[k]? = w.heap[k]? := fun k h1 => hg.block k h1.1 (fun e => h1.2 e.symm)
  have nv : ∀ (u : Value), (∀ k, u.ownBlock = some k → k < w.heap.size ∧ vw.ownBlock ≠ some k) → ∀ k, vw'.ownBlock = some k → u.ownBlock ≠ some k := by
    intro u hu k hk e
    rcases hv with e1 | e1
    · exact (hu k e).2 (e1 ▸ hk)
    · have := (hu k e).1; rw [hk] at e1; injection e1 with e1; omega
  have fa : ∀ k, va.ownBlock = some k → k < w.heap.size ∧ vw.ownBlock ≠ some k := fun k e => ⟨(hlt k (.inl e)).2, fun e2 => (h.dw k e2).1 e⟩
  have ft : ∀ k, vt.ownBlock = some k → k < w.heap.size ∧ vw.ownBlock ≠ some k := fun k e => ⟨(hlt k (.inr (.inl e))).2, (h.dt k e).2.1⟩
  have fh : ∀ x ∈ hs, ∀ k, x.val.ownBlock = some k → k < w.heap.size ∧ vw.ownBlock ≠ some k := fun x hx k e => ⟨(hlt k (.inr (.inr (.inr (.inl ⟨x, hx, e⟩))))).2, fun e2 => (h.dw k e2).2.1 x hx e⟩
  have fA : ∀ k, a.val.ownBlock = some k → k < w.heap.size ∧ vw.ownBlock ≠ some k := fun k e => ⟨(ha.at_base k e).2, fun e2 => na k e (.inr (.inr (.inl e2)))⟩
  have fB : ∀ k, b.val.ownBlock = some k → k < w.heap.size ∧ vw.ownBlock ≠ some k := fun k e => ⟨(hb.at_base k e).2, fun e2 => nb k e (.inr (.inr (.inl e2)))⟩
  have fg : ∀ x ∈ gs ++ [a, b], ∀ k, x.val.ownBlock = some k → k < w.heap.size ∧ vw.ownBlock ≠ some k := by
    intro x hx k e
    rcases List.mem_append.1 hx with hx | hx
    · exact ⟨(hlt k (.inr (.inr (.inr (.inr ⟨x, hx, e⟩))))).2, fun e2 => (h.dw k e2).2.2 x hx e⟩
    · rcases List.mem_cons.1 hx with rfl | hx
      · exact fA k e
      · obtain rfl := List.mem_singleton.1 hx; exact fB k e
  refine ⟨h.all.sameK fun k e => kb k (fa k e), h.told.sameK fun k e => kb k (ft k e), hl, h.hl, by simp [h.gl], fun i x p' hx hp => (h.ho i x p' hx hp).sameK fun k e => kb k (fh x (List.mem_of_getElem? hx) k e), fun i x p' hx hp => ?_, h.ap, fun k e => ⟨(h.dt k e).1, fun e2 => nv vt ft k e2 e, (h.dt k e).2.2.1, fun x hx => ?_⟩, fun k e => ⟨nv va fa k e, fun x hx => nv x.val (fh x hx) k e, fun x hx => nv x.val (fg x hx) k e⟩, h.da⟩
  · have hk := fg x (List.mem_of_getElem? hx)
    rcases pair2 (m := gs) rfl hx with ⟨h1, h2⟩ | ⟨h1, rfl⟩ | ⟨h1, rfl⟩ <;> rcases pair2 h.gl hp with ⟨g1, g2⟩ | ⟨g1, rfl⟩ | ⟨g1, rfl⟩ <;> first | omega | skip
    · exact (h.go i x p' h1 g1).sameK fun k e => kb k (hk k e)
    · exact ha.sameK fun k e => kb k (hk k e)
    · exact hb.sameK fun k e => kb k (hk k e)
  · rcases List.mem_append.1 hx with hx | hx
    · exact (h.dt k e).2.2.2 x hx
    · rcases List.mem_cons.1 hx with rfl | hx
      · exact fun e2 => na k e2 (.inr (.inl e))
      · obtain rfl := List.mem_singleton.1 hx; exact fun e2 => nb k e2 (.inr (.inl e))
theorem Quad.set3 {w : World} {b : Nat} {x y z u : Value} (h : Quad w b x y z u) (v : Value) : Quad (w.setCell ⟨b, 3, none⟩ v) b x y z v :=
  ⟨(World.cell?_setCell_other _ _ _ _ (by simp)).trans h.c0, (World.cell?_setCell_other _ _ _ _ (by simp)).trans h.c1, (World.cell?_setCell_other _ _ _ _ (by simp)).trans h.c2, World.cell?_setCell_same _ _ _ h.c3, fun j => by rw [World.frozen?_setCell]; exact h.fz j⟩
/-- the lists that it has been told are what they were -/
theorem TL.rds {w0 w : World} {va vw : Value} {A : Option Addr} {n c : Nat} {Y : List UInt8} {hs gs : List Hd} {ps qs : List (List UInt8)} (h : TL w0 w va (.slice A n c) vw Y hs gs ps qs) : Rds w A hs ps :=
  ⟨h.hl, fun i x p hx hp => by
    obtain ⟨b, e, h1, _⟩ := h.told.cell i x hx
    exact ⟨⟨b, e, h1⟩, (h.ho i x p hx hp).reads, (h.ho i x p hx hp).len⟩⟩
theorem TL.rdsW {w0 w : World} {va vt : Value} {B : Option Addr} {m d : Nat} {Y : List UInt8} {hs gs : List Hd} {ps qs : List (List UInt8)} (h : TL w0 w va vt (.slice B m d) Y hs gs ps qs) : Rds w B gs qs :=
  ⟨h.gl, fun i x p hx hp => by
    obtain ⟨b, e, h1, _⟩ := h.was.cell i x hx
    exact ⟨⟨b, e, h1⟩, (h.go i x p hx hp).reads, (h.go i x p hx hp).len⟩⟩
theorem apartT {w0 w : World} {va vw : Value} {A : Option Addr} {n c : Nat} {Y : List UInt8} {hs gs : List Hd} {ps qs : List (List UInt8)} (h : TL w0 w va (.slice A n c) vw Y hs gs ps qs) (h0 : w0.heap.size ≤ w.heap.size) (hn : n = hs.length) (hl : hs.length ≤ 5100000000000) (hp : ∀ p ∈ ps, p.length + 90 ≤ 140737488355328) :
    Calls Try.prog 13 #[.slice A n c] w fun e w' => e = .returned (.bool true) ∧ Step w w' (feet hs) (feet hs) := by
  have hP : ∃ P : Nat → List UInt8, ∀ (i : Nat) (x : Hd), hs[i]? = some x → OB w w0.heap.size 5 x.val (P i) := by
    have : ∀ i : Nat, ∃ p : List UInt8, ∀ x : Hd, hs[i]? = some x → OB w w0.heap.size 5 x.val p := by
      intro i
      cases he : hs[i]? with
      | none => exact ⟨[], fun x hx => by cases hx⟩
      | some y =>
        obtain ⟨p, _, hp⟩ := h.hob y (List.mem_of_getElem? he)
        exact ⟨p, fun x hx => by obtain rfl := Option.some.inj hx; exact hp⟩
    exact ⟨fun i => (this i).choose, fun i x hx => (this i).choose_spec x hx⟩
  obtain ⟨P, hP⟩ := hP
  have HA : AP w w0.heap.size w.heap.size A hs P := by
    refine ⟨fun i x hx => ?_, hP, fun i x k hx hk => ((hP i x hx).at_base k hk).2, fun i j x y hx hy hij => ?_, fun i x hx => ?_⟩
    · obtain ⟨b, e1, e2, e3, e4⟩ := h.told.cell i x hx
      refine ⟨b, e1, e2, e4, fun j y hy => ?_⟩
      obtain ⟨g, cap, e, _⟩ := World.ownsRow.form h.told.out (by have := (List.getElem?_eq_some_iff.1 hx).1; omega)
      have hv := e
      injection e with e5
      refine (h.dt b.block ?_).2.2.1 y (List.mem_of_getElem? hy)
      rw [hv]
      rw [e1] at e5
      obtain rfl := Option.some.inj e5
      rfl
    · obtain ⟨hi', rfl⟩ := List.getElem?_eq_some_iff.1 hx
      obtain ⟨hj', rfl⟩ := List.getElem?_eq_some_iff.1 hy
      rcases Nat.lt_or_gt_of_ne hij with h1 | h1
      · exact List.pairwise_iff_getElem.1 h.ap i j hi' hj' h1
      · exact (List.pairwise_iff_getElem.1 h.ap j i hj' hi' h1).symm
    · obtain ⟨p, hpm, ho⟩ := h.hob x (List.mem_of_getElem? hx)
      have h1 := hp p hpm
      have h2 := ho.len
      show x.n + 90 ≤ _
      have h3 : x.n = p.length := h2
      omega
  exact (apart_calls w0.heap.size A hs P n c w HA h0 hn hl).mono fun e w' ⟨h1, _, h3⟩ => ⟨h1, h3⟩
theorem TL.grown {w0 w w' : World} {va vt vw : Value} {Y : List UInt8} {hs gs : List Hd} {ps qs : List (List UInt8)} {g : Nat} (h : TL w0 w va vt vw Y hs gs ps qs) (hg : w.grownBy w' (some g)) (hn : ¬ TLb va vt vw hs gs g) : TL w0 w' va vt vw Y hs gs ps qs :=
  h.keep fun k hk => hg.block k (h.lt k hk).2 fun e => hn (by rw [← Option.some.inj e]; exact hk)
theorem TLb.pushT {va vt vw vt' : Value} {hs gs : List Hd} {a b : Hd} {k s s0 : Nat} (h : TLb va vt' vw (hs ++ [a, b]) gs k) (hv : vt'.ownBlock = vt.ownBlock ∨ vt'.ownBlock = some s) (h0 : s0 ≤ s) (ha : ∀ k, a.val.ownBlock = some k → s0 ≤ k) (hb : ∀ k, b.val.ownBlock = some k → s0 ≤ k) : TLb va vt vw hs gs k ∨ s0 ≤ k := by
  rcases h with h | h | h | ⟨x, hx, h⟩ | ⟨x, hx, h⟩
  · exact .inl (.inl h)
  · rcases hv with e | e
    · exact .inl (.inr (.inl (e ▸ h)))
    · rw [h] at e; injection e with e; exact .inr (by omega)
  · exact .inl (.inr (.inr (.inl h)))
  · rcases List.mem_append.1 hx with hx | hx
    · exact .inl (.inr (.inr (.inr (.inl ⟨x, hx, h⟩))))
    · rcases List.mem_cons.1 hx with rfl | hx
      · exact .inr (ha k h)
      · obtain rfl := List.mem_singleton.1 hx; exact .inr (hb k h)
  · exact .inl (.inr (.inr (.inr (.inr ⟨x, hx, h⟩))))
theorem TLb.pushW {va vt vw vw' : Value} {hs gs : List Hd} {a b : Hd} {k s s0 : Nat} (h : TLb va vt vw' hs (gs ++ [a, b]) k) (hv : vw'.ownBlock = vw.ownBlock ∨ vw'.ownBlock = some s) (h0 : s0 ≤ s) (ha : ∀ k, a.val.ownBlock = some k → s0 ≤ k) (hb : ∀ k, b.val.ownBlock = some k → s0 ≤ k) : TLb va vt vw hs gs k ∨ s0 ≤ k := by
  rcases h with h | h | h | ⟨x, hx, h⟩ | ⟨x, hx, h⟩
  · exact .inl (.inl h)
  · exact .inl (.inr (.inl h))
  · rcases hv with e | e
    · exact .inl (.inr (.inr (.inl (e ▸ h))))
    · rw [h] at e; injection e with e; exact .inr (by omega)
  · exact .inl (.inr (.inr (.inr (.inl ⟨x, hx, h⟩))))
  · rcases List.mem_append.1 hx with hx | hx
    · exact .inl (.inr (.inr (.inr (.inr ⟨x, hx, h⟩))))
    · rcases List.mem_cons.1 hx with rfl | hx
      · exact .inr (ha k h)
      · obtain rfl := List.mem_singleton.1 hx; exact .inr (hb k h)
/-- another list at va: its block is new -/
theorem TLb.setAll {va va' vt vw : Value} {hs gs : List Hd} {k s0 : Nat} (h : TLb va' vt vw hs gs k) (ha : ∀ k, va'.ownBlock = some k → s0 ≤ k) : TLb va vt vw hs gs k ∨ s0 ≤ k := by
  rcases h with h | h
  · exact .inr (ha k h)
  · exact .inl (.inr h)
theorem TL.free {w0 w : World} {vt vw : Value} {A : Option Addr} {n c : Nat} {Y : List UInt8} {hs gs : List Hd} {ps qs : List (List UInt8)} (h : TL w0 w (.slice A n c) vt vw Y hs gs ps qs) {F : Nat → Prop} (hF : ∀ k, F k → ¬ TLb (.slice A n c) vt vw hs gs k) : Free F A Y := fun a e hp hf => by
  obtain ⟨g, e1, _⟩ := h.all.someA hp
  rw [e1] at e
  obtain rfl := Option.some.inj e
  exact hF _ hf (.inl (by rw [e1]; rfl))
theorem OB.ge {w : World} {base e : Nat} {v : Value} {p : List UInt8} (h : OB w base e v p) {b : Nat} (hb : b ≤ base) : ∀ k, v.ownBlock = some k → b ≤ k := fun k hk => Nat.le_trans hb (h.at_base k hk).1
theorem RB.rowed {w w' : World} {A : Option Addr} {c g B : Nat} {p : List UInt8} (h : RB w A c p) (ho : Old B A p) (hg : w.grownBy w' (some g)) (hB : B ≤ g) : RB w' A c p :=
  h.keep fun a e hp => hg.block _ (h.old.out a e hp) fun e2 => by have := ho.out a e hp; have := Option.some.inj e2; omega
theorem Step.of_rowO {w w' : World} {row : Option Nat} (h : w.grownBy w' row) : Step w w' (fun k => row = some k) (fun k => row = some k) :=
  ⟨h.os, h.tape, h.output, h.size, fun k hk hf => h.block k hk (fun e => hf e.symm), fun _ e => .inl e⟩
/-- what a writer's loop holds: what it gathers and the writer, apart; all of it lies below s -/
structure KW (w w' : World) (b : Nat) (F : Nat → Prop) (va vt vw : Value) (Y : List UInt8) (hs gs : List Hd) (ps qs : List (List UInt8)) (s : Nat) : Prop where
  tl : TL w w' va vt vw Y hs gs ps qs
  wr : WrF w' F b Y
  fr : ∀ k, F k → w.heap.size ≤ k ∧ ¬ TLb va vt vw hs gs k
  bl : Below w.heap.size w w'
  lt : ∀ k, F k ∨ TLb va vt vw hs gs k → k < s
  le : s ≤ w'.heap.size
theorem KW.new {w w1 w2 : World} {b s : Nat} {F : Nat → Prop} {va vt vw : Value} {Y : List UInt8} {hs gs : List Hd} {ps qs : List (List UInt8)} (h : KW w w1 b F va vt vw Y hs gs ps qs s) (hb : Below w1.heap.size w1 w2) : KW w w2 b F va vt vw Y hs gs ps qs s :=
  ⟨h.tl.new hb, h.wr.new hb, h.fr, below_then h.bl hb, h.lt, Nat.le_trans h.le hb.size⟩
theorem KW.pushT {w w1 w2 : World} {b s : Nat} {F : Nat → Prop} {va vt vw vt' : Value} {Y : List UInt8} {hs gs : List Hd} {ps qs : List (List UInt8)} {x y : Hd} {p q : List UInt8} (h : KW w w1 b F va vt vw Y hs gs ps qs s)
    (hl : LL w2 w.heap.size vt' (hs ++ [x, y])) (hg : w1.grownBy w2 vt.ownBlock) (hv : vt'.ownBlock = vt.ownBlock ∨ vt'.ownBlock = some w1.heap.size) (hx : OB w1 s 5 x.val p) (hy : OB w1 s 5 y.val q) (hxy : apV x.val y.val) (h0 : w.heap.size ≤ s) :
    KW w w2 b F va vt' vw Y (hs ++ [x, y]) gs (ps ++ [p, q]) qs w2.heap.size := by
  have hT : TL w w2 va vt' vw Y (hs ++ [x, y]) gs (ps ++ [p, q]) qs := h.tl.pushT hl hg hv (hx.mono h0) (hy.mono h0) (fun k e t => by have := (hx.at_base k e).1; have := h.lt k (.inr t); omega) (fun k e t => by have := (hy.at_base k e).1; have := h.lt k (.inr t); omega) hxy
  have hW : WrF w2 F b Y := h.wr.step (Step.of_rowO hg) (fun k hk e => (h.fr k hk).2 (.inr (.inl e)))
  refine ⟨hT, hW, fun k hk => ⟨(h.fr k hk).1, fun t => ?_⟩, h.bl.grown hg h.bl.size (fun k e => (h.tl.told.lt k e).1), ?_, Nat.le_refl _⟩
  · rcases t.pushT hv h.le (fun k e => (hx.at_base k e).1) (fun k e => (hy.at_base k e).1) with t | t
    · exact (h.fr k hk).2 t
    · have := h.lt k (.inl hk); omega
  · rintro k (e | e)
    · exact hW.lt k e
    · exact (hT.lt k e).2
theorem KW.pushW {w w1 w2 : World} {b s : Nat} {F : Nat → Prop} {va vt vw vw' : Value} {Y : List UInt8} {hs gs : List Hd} {ps qs : List (List UInt8)} {x y : Hd} {p q : List UInt8} (h : KW w w1 b F va vt vw Y hs gs ps qs s)
    (hl : LL w2 w.heap.size vw' (gs ++ [x, y])) (hg : w1.grownBy w2 vw.ownBlock) (hv : vw'.ownBlock = vw.ownBlock ∨ vw'.ownBlock = some w1.heap.size) (hx : OB w1 s 5 x.val p) (hy : OB w1 s 5 y.val q) (h0 : w.heap.size ≤ s) :
    KW w w2 b F va vt vw' Y hs (gs ++ [x, y]) ps (qs ++ [p, q]) w2.heap.size := by
  have hT : TL w w2 va vt vw' Y hs (gs ++ [x, y]) ps (qs ++ [p, q]) := h.tl.pushW hl hg hv (hx.mono h0) (hy.mono h0) (fun k e t => by have := (hx.at_base k e).1; have := h.lt k (.inr t); omega) (fun k e t => by have := (hy.at_base k e).1; have := h.lt k (.inr t); omega)
  have hW : WrF w2 F b Y := h.wr.step (Step.of_rowO hg) (fun k hk e => (h.fr k hk).2 (.inr (.inr (.inl e))))
  refine ⟨hT, hW, fun k hk => ⟨(h.fr k hk).1, fun t => ?_⟩, h.bl.grown hg h.bl.size (fun k e => (h.tl.was.lt k e).1), ?_, Nat.le_refl _⟩
  · rcases t.pushW hv h.le (fun k e => (hx.at_base k e).1) (fun k e => (hy.at_base k e).1) with t | t
    · exact (h.fr k hk).2 t
    · have := h.lt k (.inl hk); omega
  · rintro k (e | e)
    · exact hW.lt k e
    · exact (hT.lt k e).2
theorem apV_lt {u v : Value} {s : Nat} (hu : ∀ k, u.ownBlock = some k → k < s) (hv : ∀ k, v.ownBlock = some k → s ≤ k) : apV u v := by
  by_cases hn : u.ownBlock = none
  · exact .inl hn
  · refine .inr fun e => ?_
    obtain ⟨k, hk⟩ := Option.ne_none_iff_exists'.1 hn
    have := hu k hk
    have := hv k (e ▸ hk)
    omega
theorem wp_op_isK {P : Program} {w : World} {ops : Array Oper} {rest : List Oper} {o : Oper} {a : Act} {Q : Exit → Act → World → Prop} (op : Op) (_h : o.op = op) (k : wpList P ops Q (o :: rest) a w) : wpList P ops Q (o :: rest) a w := k
theorem feetT {va vt vw : Value} {hs gs : List Hd} {k : Nat} (h : feet hs k) : TLb va vt vw hs gs k := by
  obtain ⟨i, x, hx, e⟩ := h
  exact .inr (.inr (.inr (.inl ⟨x, List.mem_of_getElem? hx, e⟩)))
theorem row2 (w : World) (x y : Hd) (t : TypeId) : ∀ (j : Nat) (z : Hd), [x, y][j]? = some z → ∃ b : Addr, some (⟨w.heap.size, 0, none⟩ : Addr) = some b ∧ (w.alloc (.cells #[x.val, y.val] t)).cell? (b.add j) = some z.val := fun j z hz =>
  (rowF w w.heap.size rfl [x, y] t 0 0 (Nat.zero_le _) j z hz).imp fun _ h => ⟨h.1, h.2.1⟩
end Go.Proofs.Ytlcbjjgmkllceaa
