import Derived.Test.YtlcbjjgmkllceaaQMarkWalk
import Derived.Deep.RegionHeld3
import Derived.Deep.AppendLies
import Derived.Laws.OwnMore
/- The statements' look at lists that share nothing: Apart. -/
namespace Go.Proofs.Ytlcbjjgmkllceaa
open Go.RowKit

/-- two lists of bytes that share no block -/
def apV (u v : Value) : Prop := u.ownBlock = none ∨ u.ownBlock ≠ v.ownBlock
/-- where a list lies, its length, its room -/
structure Hd where
  A : Option Addr
  n : Nat
  c : Nat
def Hd.val (h : Hd) : Value := .slice h.A h.n h.c
/-- lists of bytes in a list at L; P i stands in the i-th; all of them lie below H in blocks of their own -/
structure AP (w : World) (base H : Nat) (L : Option Addr) (hs : List Hd) (P : Nat → List UInt8) : Prop where
  cell : ∀ (i : Nat) (h : Hd), hs[i]? = some h → ∃ a : Addr, L = some a ∧ w.cell? (a.add i) = some h.val ∧ a.block < H ∧ ∀ (j : Nat) (k : Hd), hs[j]? = some k → k.val.ownBlock ≠ some a.block
  own : ∀ (i : Nat) (h : Hd), hs[i]? = some h → OB w base 5 h.val (P i)
  lt : ∀ (i : Nat) (h : Hd) (k : Nat), hs[i]? = some h → h.val.ownBlock = some k → k < H
  apart : ∀ (i j : Nat) (h k : Hd), hs[i]? = some h → hs[j]? = some k → i ≠ j → apV h.val k.val
  len : ∀ (i : Nat) (h : Hd), hs[i]? = some h → h.n + 90 ≤ 140737488355328
theorem OB.someA {w : World} {base e n c : Nat} {A : Option Addr} {p : List UInt8} (h : OB w base e (.slice A n c) p) (hp : 0 < p.length) : ∃ g, A = some ⟨g, 0, none⟩ ∧ base ≤ g := by
  rcases h.out.2 with ⟨h0, h1⟩ | ⟨g, cap, cur, hv, hg, _⟩
  · exfalso
    have := h.out.1
    simp_all
  · injection hv with e1
    exact ⟨g, e1, hg⟩

/-- the blocks of the lists -/
def feet (hs : List Hd) (k : Nat) : Prop := ∃ (i : Nat) (h : Hd), hs[i]? = some h ∧ h.val.ownBlock = some k
theorem AP.kept {w w' : World} {base H : Nat} {L : Option Addr} {hs : List Hd} {P : Nat → List UInt8} (h : AP w base H L hs P) (hk : ∀ k, k < H → w'.heap[k]? = w.heap[k]?) : AP w' base H L hs P := by
  refine ⟨fun i x hx => ?_, fun i x hx => ?_, h.lt, h.apart, h.len⟩
  · obtain ⟨a, ha, hc, hlt, hf⟩ := h.cell i x hx
    exact ⟨a, ha, (World.cell?_of_block (a := a.add i) (by rw [block_add]; exact hk _ hlt)).trans hc, hlt, hf⟩
  · have ho := h.own i x hx
    refine ⟨⟨ho.out.1, ?_⟩⟩
    rcases ho.out.2 with h1 | ⟨g, cap, cur, e1, hb, hh, r⟩
    · exact .inl h1
    · exact .inr ⟨g, cap, cur, e1, hb, (hk g (h.lt i x g hx (by rw [e1]; rfl))).trans hh, r⟩
/-- one of them is written -/
theorem AP.change {w w' : World} {base H : Nat} {L : Option Addr} {hs : List Hd} {P : Nat → List UInt8} (h : AP w base H L hs P) (i : Nat) (x : Hd) (hx : hs[i]? = some x) (q : List UInt8) (hg : w.grownBy w' x.val.ownBlock) (ho : OB w' base 5 x.val q) : AP w' base H L hs (fun j => if j = i then q else P j) := by
  refine ⟨fun j y hy => ?_, fun j y hy => ?_, h.lt, h.apart, h.len⟩
  · obtain ⟨a, ha, hc, hlt, hf⟩ := h.cell j y hy
    refine ⟨a, ha, (World.cell?_of_block (a := a.add j) ?_).trans hc, hlt, hf⟩
    have hb := World.block_lt_of_cell? w _ hc
    rw [block_add] at hb ⊢
    exact hg.block _ hb (fun e => hf i x hx e.symm)
  · by_cases hj : j = i
    · subst hj
      rw [hx] at hy
      obtain rfl := Option.some.inj hy
      simpa using ho
    · rw [if_neg hj]
      exact (h.own j y hy).keep hg (h.apart j i y x hy hx hj)
theorem AP.congr {w : World} {base H : Nat} {L : Option Addr} {hs : List Hd} {P Q : Nat → List UInt8} (h : AP w base H L hs P) (hq : ∀ (i : Nat) (x : Hd), hs[i]? = some x → P i = Q i) : AP w base H L hs Q :=
  ⟨h.cell, fun i x hx => by rw [← hq i x hx]; exact h.own i x hx, h.lt, h.apart, h.len⟩
theorem AP.length {w : World} {base H : Nat} {L : Option Addr} {hs : List Hd} {P : Nat → List UInt8} (h : AP w base H L hs P) (i : Nat) (x : Hd) (hx : hs[i]? = some x) : x.n = (P i).length := (h.own i x hx).len

/-- three numbers in a block -/
structure Tri (w : World) (b : Nat) (x y z : Value) : Prop where
  c0 : w.cell? ⟨b, 0, none⟩ = some x
  c1 : w.cell? ⟨b, 1, none⟩ = some y
  c2 : w.cell? ⟨b, 2, none⟩ = some z
theorem Tri.fresh (w : World) (k : Nat) (hk : w.heap.size = k) (x y z : Value) (t : TypeId) (f : Nat × Nat) : Tri (w.alloc (.cells #[x, y, z] t f)) k x y z := by
  subst hk
  have e := heap_alloc_new w (.cells #[x, y, z] t f)
  have e2 : ∀ j, (w.alloc (.cells #[x, y, z] t f)).cell? ⟨w.heap.size, j, none⟩ = (#[x, y, z] : Array Value)[j]? := fun j => by unfold World.cell?; rw [e]; rfl
  exact ⟨by rw [e2]; rfl, by rw [e2]; rfl, by rw [e2]; rfl⟩
theorem Tri.keep {w w' : World} {b : Nat} {x y z : Value} (h : Tri w b x y z) (hb : w'.heap[b]? = w.heap[b]?) : Tri w' b x y z :=
  ⟨(World.cell?_of_block (a := ⟨b, 0, none⟩) hb).trans h.c0, (World.cell?_of_block (a := ⟨b, 1, none⟩) hb).trans h.c1, (World.cell?_of_block (a := ⟨b, 2, none⟩) hb).trans h.c2⟩
theorem Tri.lt {w : World} {b : Nat} {x y z : Value} (h : Tri w b x y z) : b < w.heap.size := World.block_lt_of_cell? w _ h.c0
theorem Tri.at_ {w : World} {b : Nat} (h : Tri w b (.int .i64 1) (.int .i64 24) (.int .i64 90)) (k : Nat) (hk : k < 3) : ∃ S d : Nat, (S = 1 ∧ d = 24 ∨ S = 24 ∧ d = 24 ∨ S = 90 ∧ d = 90) ∧ w.cell? ⟨b, k, none⟩ = some (.int .i64 S) := by
  rcases (by omega : k = 0 ∨ k = 1 ∨ k = 2) with rfl | rfl | rfl
  · exact ⟨1, 24, .inl ⟨rfl, rfl⟩, h.c0⟩
  · exact ⟨24, 24, .inr (.inl ⟨rfl, rfl⟩), h.c1⟩
  · exact ⟨90, 90, .inr (.inr ⟨rfl, rfl⟩), h.c2⟩
theorem Step.far {a b c : World} {F G : Nat → Prop} {row : Option Nat} (h : Step a b F G) (hg : b.grownBy c row) (hr : ∀ k, row = some k → a.heap.size ≤ k ∨ F k) : Step a c F G :=
  ⟨hg.os.trans h.os, hg.tape.trans h.tape, hg.output.trans h.output, Nat.le_trans h.size hg.size, fun k hk hf => (hg.block k (Nat.lt_of_lt_of_le hk h.size) (fun e => (hr k e.symm).elim (fun h1 => by omega) hf)).trans (h.block k hk hf), h.foot⟩

/-- a byte of one of them is written -/
theorem AP.put {w : World} {base H : Nat} {L : Option Addr} {hs : List Hd} {P : Nat → List UInt8} (h : AP w base H L hs P) (i g m c : Nat) (hx : hs[i]? = some ⟨some ⟨g, 0, none⟩, m, c⟩) (j : Nat) (b : UInt8) :
    AP (w.setCell ⟨g, j, none⟩ (.int .u8 (uB b))).drew base H L hs (fun k => if k = i then (P i).set j b else P k) ∧ Step w (w.setCell ⟨g, j, none⟩ (.int .u8 (uB b))).drew (feet hs) (feet hs) := by
  obtain ⟨h1, h2⟩ := (h.own i _ hx).set j b
  exact ⟨(h.change i _ hx _ h2 h1).kept fun k _ => rfl, (Step.of_grown h2 ⟨i, _, hx, rfl⟩).new (below_drew _ _)⟩
theorem take_set_succ (p : List UInt8) (j : Nat) (b : UInt8) (h : j < p.length) : (p.set j b).take (j + 1) = p.take j ++ [b] := by
  rw [List.take_add_one, List.take_set_of_le (Nat.le_refl _), List.getElem?_set_self h]
  rfl

/-- the grown lists, in a list of the call's own -/
structure GR (wk w : World) (base : Nat) (R : Int) (d : Nat) (hs : List Hd) (v : Value) (gs : List Hd) : Prop where
  row : w.ownsRow wk.heap.size 23 1 v gs.length (gs.map Hd.val)
  own : ∀ (j : Nat) (g : Hd), gs[j]? = some g → ∃ h : Hd, hs[j]? = some h ∧ g.n = h.n + d ∧ OB w base 5 g.val (mkL R j 0 (h.n + d)) ∧ ((g.A = h.A ∧ g.c = h.c) ∨ ∃ k, g.val.ownBlock = some k ∧ wk.heap.size ≤ k)
  far : ∀ (j : Nat) (g : Hd), gs[j]? = some g → apV g.val v
theorem GR.keep {wk w w' : World} {base : Nat} {R : Int} {d : Nat} {hs : List Hd} {v : Value} {gs : List Hd} (h : GR wk w base R d hs v gs) (hv : ∀ k, v.ownBlock = some k → w'.heap[k]? = w.heap[k]?) (hf : ∀ (j : Nat) (g : Hd), gs[j]? = some g → ∀ k, g.val.ownBlock = some k → w'.heap[k]? = w.heap[k]?) : GR wk w' base R d hs v gs := by
  refine ⟨⟨h.row.1, ?_⟩, fun j g hg => ?_, h.far⟩
  · rcases h.row.2 with h1 | ⟨g, cap, cur, rfl, hb, hh, r⟩
    · exact .inl h1
    · exact .inr ⟨g, cap, cur, rfl, hb, (hv g rfl).trans hh, r⟩
  · obtain ⟨x, h1, h2, h3, h4⟩ := h.own j g hg
    refine ⟨x, h1, h2, ⟨h3.out.1, ?_⟩, h4⟩
    rcases h3.out.2 with h1 | ⟨b, cap, cur, e1, hb, hh, r⟩
    · exact .inl h1
    · exact .inr ⟨b, cap, cur, e1, hb, (hf j g hg b (by rw [e1]; rfl)).trans hh, r⟩
theorem GR.new {wk w w' : World} {base : Nat} {R : Int} {d : Nat} {hs : List Hd} {v : Value} {gs : List Hd} (h : GR wk w base R d hs v gs) (hb : Below w.heap.size w w') : GR wk w' base R d hs v gs :=
  h.keep (fun k hk => hb.block k (h.row.lt k hk).2) (fun j g hg k hk => by obtain ⟨x, _, _, h3, _⟩ := h.own j g hg; exact hb.block k (h3.at_base k hk).2)
structure LsT (P : Program) (t e : TypeId) : Prop where
  sl : P.underlying t = some (.slice e)
  info : (P.info? e).map (fun i => (i.zero, i.size, i.bytes)) = some (some (.slice none 0 0), 1, 24)
theorem lst : LsT Try.prog 36 23 := ⟨Try.underlying36, by kernel_rfl⟩
/-- append(v, g) of a list of bytes -/
theorem wp_appendL {P : Program} {t e : TypeId} {w : World} {ops : Array Oper} {rest : List Oper} {o : Oper} {a : Act} {Q : Exit → Act → World → Prop} (lt : LsT P t e) (hg : o.guard = none) (s x : Operand) (hop : o.op = .call { callee := .builtin .append, args := #[s, x], argTypes := #[t, t] })
    (base : Nat) (v : Value) (gs : List Hd) (hs : a.eval s = v) (ho : w.ownsRow base e 1 v gs.length (gs.map Hd.val)) (g : Hd) (ad : Addr) (hx : a.eval x = .slice (some ad) 1 1) (hc : w.cell? (ad.add 0) = some g.val) (hlen : (gs.length + 1) * 24 ≤ 140737488355328) (hbase : base ≤ w.heap.size)
    (h : ∀ v' w', w'.ownsRow base e 1 v' (gs ++ [g]).length ((gs ++ [g]).map Hd.val) → w.grownBy w' v.ownBlock → (v'.ownBlock = v.ownBlock ∨ v'.ownBlock = some w.heap.size) → wpList P ops Q rest (a.put o.dst v') w') : wpList P ops Q (o :: rest) a w := by
  obtain ⟨i, hi, hz, hsz, hb⟩ := info_parts lt.info
  refine Go.wpList_append_own_at (w := w) hg s x t hop base e i _ 1 24 lt.sl hi hz hsz hb rfl (by decide) v gs.length (gs.map Hd.val) hs ho ad 1 1 [g.val] hx rfl (fun j u hu => ?_) (fun u hu => ?_) (by unfold maxLen; omega) hlen hbase fun v' w' h1 h2 _ h4 => ?_
  · match j, hu with
    | 0, hu => simp at hu; subst hu; exact hc
    | j + 1, hu => simp at hu
  · simp at hu; subst hu; rfl
  · exact h v' w' (by simpa using h1) h2 h4
theorem GR.push {wk w w' : World} {base : Nat} {R : Int} {d : Nat} {hs : List Hd} {v v' : Value} {gs : List Hd} (h : GR wk w base R d hs v gs) (g x : Hd) (hx : hs[gs.length]? = some x) (hn : g.n = x.n + d) (ho : OB w base 5 g.val (mkL R gs.length 0 (x.n + d))) (ha : (g.A = x.A ∧ g.c = x.c) ∨ ∃ k, g.val.ownBlock = some k ∧ wk.heap.size ≤ k) (hf : apV g.val v)
    (hr : w'.ownsRow wk.heap.size 23 1 v' (gs ++ [g]).length ((gs ++ [g]).map Hd.val)) (hgr : w.grownBy w' v.ownBlock) (hv : v'.ownBlock = v.ownBlock ∨ v'.ownBlock = some w.heap.size) : GR wk w' base R d hs v' (gs ++ [g]) := by
  have hnew : ∀ (y : Hd) (p : List UInt8), OB w base 5 y.val p → apV y.val v → apV y.val v' := by
    intro y p hy hf
    rcases hv with e1 | e1
    · unfold apV; rw [e1]; exact hf
    · by_cases hn : y.val.ownBlock = none
      · exact .inl hn
      · refine .inr fun e2 => ?_
        have := (hy.at_base _ (e2.trans e1)).2
        omega
  refine ⟨hr, fun j y hy => ?_, fun j y hy => ?_⟩
  · by_cases hj : j < gs.length
    · rw [List.getElem?_append_left hj] at hy
      obtain ⟨z, h1, h2, h3, h4⟩ := h.own j y hy
      exact ⟨z, h1, h2, h3.keep hgr (h.far j y hy), h4⟩
    · rw [List.getElem?_append_right (by omega)] at hy
      have hj0 : j = gs.length := by
        have := (List.getElem?_eq_some_iff.1 hy).1
        simp at this
        omega
      subst hj0
      simp at hy
      subst hy
      exact ⟨x, hx, hn, ho.keep hgr hf, ha⟩
  · by_cases hj : j < gs.length
    · rw [List.getElem?_append_left hj] at hy
      obtain ⟨z, h1, h2, h3, h4⟩ := h.own j y hy
      exact hnew y _ h3 (h.far j y hy)
    · rw [List.getElem?_append_right (by omega)] at hy
      have hj0 : j = gs.length := by
        have := (List.getElem?_eq_some_iff.1 hy).1
        simp at this
        omega
      subst hj0
      simp at hy
      subst hy
      exact hnew _ _ ho hf
/-- one list more is grown -/
theorem GR.round {wk w w1 : World} {base H : Nat} {L A' : Option Addr} {R : Int} {d c' : Nat} {hs : List Hd} {P : Nat → List UInt8} {v : Value} {gs : List Hd} (h : GR wk w base R d hs v gs) (HA : AP w base H L hs P) (hH : H ≤ wk.heap.size) (hS : Step wk w (feet hs) (feet hs)) (x : Hd) (hx : hs[gs.length]? = some x)
    (hP : P gs.length = mkL R gs.length 0 x.n) (hG : Grew w w1 base x.A A' x.n (x.n + d) x.c c' (P gs.length) (P gs.length ++ mkL R gs.length x.n d)) (o : Obj) :
    GR wk (w1.alloc o) base R d hs v gs ∧ AP (w1.alloc o) base H L hs P ∧ OB (w1.alloc o) base 5 (Hd.val ⟨A', x.n + d, c'⟩) (mkL R gs.length 0 (x.n + d)) ∧ ((A' = x.A ∧ c' = x.c) ∨ ∃ k, (Hd.val ⟨A', x.n + d, c'⟩).ownBlock = some k ∧ wk.heap.size ≤ k) ∧ apV (Hd.val ⟨A', x.n + d, c'⟩) v ∧ Step wk (w1.alloc o) (feet hs) (feet hs) := by
  have hkw := hS.size
  have hb : ∀ w' : World, Below w'.heap.size w' (w'.alloc o) := fun w' => below_alloc1 (Below.refl _ _) (Nat.le_refl _) o
  have hA1 : AP w1 base H L hs P := (HA.change gs.length x hx (P gs.length) hG.grown hG.old).congr fun i y hy => by
    show (if i = gs.length then _ else _) = _
    by_cases hi : i = gs.length
    · rw [if_pos hi, hi]
    · rw [if_neg hi]
  have hat : (A' = x.A ∧ c' = x.c) ∨ ∃ k, (Hd.val ⟨A', x.n + d, c'⟩).ownBlock = some k ∧ wk.heap.size ≤ k := hG.at_.imp id fun ⟨k, h1, h2⟩ => ⟨k, h1, by omega⟩
  have hsame : (Hd.val ⟨x.A, x.n + d, x.c⟩).ownBlock = x.val.ownBlock := by obtain ⟨A, n, c⟩ := x; cases A <;> rfl
  refine ⟨(h.keep (fun k hk => ?_) (fun j g hg k hk => ?_)).new (hb _), hA1.kept (fun k hk => (hb w1).block k (Nat.lt_of_lt_of_le hk (Nat.le_trans hH (Nat.le_trans hkw hG.grown.size)))), ?_, hat, ?_, (hS.far hG.grown fun k hk => .inr ⟨_, x, hx, hk⟩).new (hb _)⟩
  · obtain ⟨h1, h2⟩ := h.row.lt k hk
    refine hG.grown.block k h2 fun e => ?_
    have := HA.lt _ x k hx e.symm
    omega
  · obtain ⟨y, hy, _, ho, ha⟩ := h.own j g hg
    obtain ⟨_, h2⟩ := ho.at_base k hk
    refine hG.grown.block k h2 fun e => ?_
    have hkH := HA.lt _ x k hx e.symm
    rcases ha with ⟨e1, e2⟩ | ⟨k2, e1, e2⟩
    · have hj : j ≠ gs.length := by have := (List.getElem?_eq_some_iff.1 hg).1; omega
      have hsg : g.val.ownBlock = y.val.ownBlock := by
        obtain ⟨A, n, c⟩ := g
        obtain ⟨A2, n2, c2⟩ := y
        simp only at e1
        subst e1
        cases A <;> rfl
      rcases HA.apart j _ y x hy hx hj with e3 | e3
      · rw [hsg, e3] at hk; cases hk
      · rw [hsg] at hk; exact e3 (hk.trans e)
    · rw [hk] at e1
      have := Option.some.inj e1
      omega
  · have := hG.own.alloc o
    rwa [hP, mkL_add] at this
  · by_cases hn : (Hd.val ⟨A', x.n + d, c'⟩).ownBlock = none
    · exact .inl hn
    · refine .inr fun e => ?_
      obtain ⟨k, hk⟩ := Option.ne_none_iff_exists'.1 hn
      obtain ⟨h1, h2⟩ := h.row.lt k (e.symm.trans hk)
      rcases hG.at_ with ⟨e1, e2⟩ | ⟨k2, e1, e2⟩
      · subst e1; subst e2
        have := HA.lt _ x k hx (hsame.symm.trans hk)
        omega
      · have e3 : some k = some k2 := hk.symm.trans e1
        have := Option.some.inj e3
        omega
theorem grow_calls (base : Nat) (A : Option Addr) (n c : Nat) (p : List UInt8) (r i : Int) (S d : Nat) (hS : S = 1 ∧ d = 24 ∨ S = 24 ∧ d = 24 ∨ S = 90 ∧ d = 90) (w : World) (hp : OB w base 5 (.slice A n c) p) (hb : base ≤ w.heap.size) (hl : p.length + 90 ≤ 140737488355328) :
    Calls Try.prog 24 #[.slice A n c, .int .i64 r, .int .i64 i, .int .i64 S] w fun e w' => ∃ A' c', e = .returned (.slice A' (n + d) c') ∧ Grew w w' base A A' n (n + d) c c' p (p ++ mkL r i n d) := by
  rcases hS with ⟨rfl, rfl⟩ | ⟨rfl, rfl⟩ | ⟨rfl, rfl⟩
  · exact grow1_calls base A n c p r i w hp hb (by omega)
  · exact grow2_calls base A n c p r i 24 (.inl rfl) w hp hb hl
  · exact grow2_calls base A n c p r i 90 (.inr rfl) w hp hb hl

set_option maxHeartbeats 1000000 in
set_option maxRecDepth 100000 in
theorem apart_calls (base : Nat) (L : Option Addr) (hs : List Hd) (P0 : Nat → List UInt8) (n c : Nat) (w : World) (h : AP w base w.heap.size L hs P0) (hb : base ≤ w.heap.size) (hn : n = hs.length) (hl : hs.length ≤ 5100000000000) :
    Calls Try.prog 13 #[.slice L n c] w fun e w' => e = .returned (.bool true) ∧ (∃ P, AP w' base w.heap.size L hs P) ∧ Step w w' (feet hs) (feet hs) := by
  subst hn
  go_enter Try.func13, Try.ntmps13
  go_wp2
  go_loopw [3] (fun r wr => ∃ (R : Nat) (P : Nat → List UInt8), R ≤ 2 ∧ r = .int .i64 R ∧ AP wr base w.heap.size L hs P ∧ Step w wr (feet hs) (feet hs)) (fun r _ => 2 - (intOf r).toNat)
  case atStart => exact ⟨0, P0, by omega, rfl, h, Step.refl _ _⟩
  case round =>
    obtain ⟨R, P, hR, rfl, HA, HS⟩ := hrel
    by_cases hlt : R < 2
    · obtain ⟨w1, rfl⟩ : ∃ w1 : World, w1 = wr := ⟨_, rfl⟩
      have hltI : (R : Int) < 2 := by omega
      clear hlt
      go_wp2
      go_loopw [4, 5, 17] (fun _ _ v wr => ∃ (i : Nat) (P1 : Nat → List UInt8), i ≤ hs.length ∧ v = .int .i64 i ∧ AP wr base w.heap.size L hs P1 ∧ (∀ (j : Nat) (x : Hd), j < i → hs[j]? = some x → P1 j = mkL R j 0 x.n) ∧ Step w wr (feet hs) (feet hs)) (fun _ _ v _ => hs.length - (intOf v).toNat)
      case atStart => exact ⟨0, P, Nat.zero_le _, rfl, HA, fun j x hj => absurd hj (by omega), HS⟩
      case round =>
        obtain ⟨i, P1, hi, rfl, HA1, HM, HS1⟩ := hrel
        by_cases hli : i < hs.length
        · obtain ⟨x, hx⟩ : ∃ x, hs[i]? = some x := ⟨_, List.getElem?_eq_getElem hli⟩
          have HXI := Lib.hid hx
          have HMM := Lib.hid HM
          obtain ⟨a, rfl, hc, hal, _⟩ := HA1.cell i x hx
          simp only [Hd.val] at hc
          clear HM hx
          obtain ⟨w2, rfl⟩ : ∃ w2 : World, w2 = wr := ⟨_, rfl⟩
          go_wp2
          go_loopw [5, 25] (fun _ v wr => ∃ (j : Nat) (P2 : Nat → List UInt8), j ≤ x.n ∧ v = .int .i64 j ∧ AP wr base w.heap.size (some a) hs P2 ∧ (∀ k, k ≠ i → P2 k = P1 k) ∧ Hid ((P2 i).take j = mkL R i 0 j) ∧ Step w wr (feet hs) (feet hs)) (fun _ v _ => x.n - (intOf v).toNat)
          case atStart => exact ⟨0, P1, Nat.zero_le _, rfl, HA1, fun _ _ => rfl, Lib.hid (by simp [mkL]), HS1⟩
          case round =>
            obtain ⟨j, P2, hj, rfl, HA2, HO, HT, HS2⟩ := hrel
            by_cases hlj : j < x.n
            · obtain ⟨a2, ha2, hc2, hal2, hne2⟩ := HA2.cell i x HXI.out
              obtain rfl := Option.some.inj ha2
              simp only [Hd.val] at hc2
              obtain ⟨A, m, cp⟩ := x
              have hmn : m = (P2 i).length := HA2.length i _ HXI.out
              simp only at hlj hj hc2
              obtain ⟨g, rfl, hg⟩ := (HA2.own i _ HXI.out).someA (by omega)
              obtain ⟨hcj, hfj⟩ := (HA2.own i _ HXI.out).cell j (by omega)
              generalize (P2 i)[j]'(by omega) = x0 at hcj
              have HMN := Lib.hid hmn
              clear hmn ha2 hc hne2
              have HL := Lib.hid (And.intro hlj hj)
              clear hj
              clear h HA HA1
              have HL3 := HA2.len i _ HXI.out
              simp only at HL3
              go_wp2
              go_region_with (go_at_call 23; (with_reducible refine (mark_quiet R i j _).mono ?_); rintro e1 w1 ⟨rfl, rfl⟩)
              all_goals
                go_wp2
                go_roundw
                case rel =>
                  obtain ⟨h1, h2⟩ := HA2.put i _ _ _ HXI.out j (mk R i j)
                  refine ⟨j + 1, _, HL.out.1, by go_num, h1, fun k hk => by rw [if_neg hk]; exact HO k hk, Lib.hid ?_, HS2.trans h2⟩
                  rw [if_pos rfl, mkL_succ, ← HT.out, Nat.zero_add]
                  exact take_set_succ _ _ _ (by rw [← HMN.out]; exact HL.out.1)
                case measure => simp [intOf]; omega
            · obtain rfl : j = x.n := by omega
              clear hlj
              go_wp2
              go_roundw
              case rel =>
                refine ⟨i + 1, P2, by omega, by go_num, HA2, fun k y hk hy => ?_, HS2⟩
                by_cases hki : k = i
                · subst hki
                  obtain rfl := Option.some.inj (HXI.out.symm.trans hy)
                  have := HT.out
                  rwa [List.take_of_length_le (Nat.le_of_eq (HA2.length k x hy).symm)] at this
                · rw [HO k hki]; exact HMM.out k y (by omega) hy
              case measure => simp [intOf]; omega
        · obtain rfl : i = hs.length := by omega
          clear hli
          obtain ⟨g, hgd⟩ : ∃ g, wr.heap.size = g := ⟨_, rfl⟩
          have HGD := Lib.hid hgd
          clear hgd h HA
          obtain ⟨ws, rfl⟩ : ∃ ws : World, ws = wr := ⟨_, rfl⟩
          have hsz := HS1.size
          go_wp2
          go_loopw [7, 42] (fun _ v wk => ∃ (k : Nat) (P2 : Nat → List UInt8), k ≤ 3 ∧ v = .int .i64 k ∧ AP wk base w.heap.size L hs P2 ∧ Hid (∀ (j : Nat) (x : Hd), hs[j]? = some x → P2 j = mkL R j 0 x.n) ∧ Tri wk ws.heap.size (.int .i64 1) (.int .i64 24) (.int .i64 90) ∧ Step w wk (feet hs) (feet hs)) (fun _ v _ => 3 - (intOf v).toNat)
          case atStart =>
            have hb2 := below_alloc1 (Below.refl ws.heap.size ws) (Nat.le_refl _) (.cells #[.int .i64 1, .int .i64 24, .int .i64 90] 3)
            refine ⟨0, P1, by omega, rfl, HA1.kept (fun k hk => hb2.block k (by omega)), Lib.hid fun j x hx => HM j x (List.getElem?_eq_some_iff.1 hx).1 hx, ?_, HS1.new hb2⟩
            exact Tri.fresh _ _ rfl _ _ _ _ _
          case round =>
            obtain ⟨k, P2, hk, rfl, HA2, HM2, HT, HS2⟩ := hrel
            by_cases hlk : k < 3
            · obtain ⟨S, d, hS, hcS⟩ := HT.at_ k hlk
              have HSd := Lib.hid hS
              clear hS HA1 HM
              obtain ⟨wk, rfl⟩ : ∃ wk : World, wk = wr := ⟨_, rfl⟩
              have hltI : (k : Int) < 3 := by omega
              clear hlk
              have hkz := HS2.size
              go_wp2
              go_loopw [8, 9, 48] (fun v8 _ v w9 => ∃ (gs : List Hd) (P3 : Nat → List UInt8), gs.length ≤ hs.length ∧ v = .int .i64 gs.length ∧ GR wk w9 base R d hs v8 gs ∧ AP w9 base w.heap.size L hs P3 ∧ Hid (∀ (j : Nat) (x : Hd), hs[j]? = some x → P3 j = mkL R j 0 x.n) ∧ Step wk w9 (feet hs) (feet hs)) (fun _ _ v _ => hs.length - (intOf v).toNat)
              case atStart => exact ⟨[], P2, Nat.zero_le _, rfl, ⟨World.ownsRow_nil _ _ _ _, fun j g hg => absurd hg (by simp), fun j g hg => absurd hg (by simp)⟩, HA2, HM2, Step.refl _ _⟩
              case round =>
                obtain ⟨gs, P3, hgl, rfl, HG3, HA3, HM3, HS3⟩ := hrel
                have hsz3 := HS3.size
                by_cases hlg : gs.length < hs.length
                · obtain ⟨x, hx⟩ : ∃ x, hs[gs.length]? = some x := ⟨_, List.getElem?_eq_getElem hlg⟩
                  have HX := Lib.hid hx
                  clear hx
                  obtain ⟨a, rfl, hc, hal, _⟩ := HA3.cell _ x HX.out
                  simp only [Hd.val] at hc
                  have HL4 := Lib.hid (HA3.length _ x HX.out)
                  have HL5 := HA3.len _ x HX.out
                  go_wp2_with (first
                    | (go_at_call 24; (with_reducible refine (grow_calls base x.A x.n x.c (P3 gs.length) R gs.length S d HSd.out _ (HA3.own _ x HX.out) (by omega) (by rw [← HL4.out]; exact HL5)).mono ?_); rintro e1 w1 ⟨A1, c1, rfl, hG1⟩)
                    | (refine wp_appendL lst rfl (.tmp 51) (.tmp 60) rfl wk.heap.size u8 gs rfl (HG3.round HA3 (by omega) HS3 x HX.out (HM3.out _ x HX.out) hG1 _).1.row ⟨A1, x.n + d, c1⟩ ⟨w1.heap.size, 0, none⟩ rfl (cell_one_new _ _ _ 0 _ rfl) (by omega) (by rw [asz]; have := hG1.grown.size; omega) fun v' w2 hr2 hgr2 hv2 => ?_))
                  go_roundw
                  case rel =>
                    obtain ⟨h1, h2, h3, h4, h5, h6⟩ := HG3.round HA3 (by omega) HS3 x HX.out (HM3.out _ x HX.out) hG1 (.cells #[.slice A1 (x.n + d) c1] 23)
                    have hsz6 := h6.size
                    refine ⟨gs ++ [⟨A1, x.n + d, c1⟩], P3, by simp; omega, by simp, h1.push ⟨A1, x.n + d, c1⟩ x HX.out rfl h3 h4 h5 hr2 hgr2 hv2, h2.kept (fun k hk => hgr2.block k (by omega) (fun e => ?_)), HM3, h6.far hgr2 (fun k e => .inl (h1.row.lt k e).1)⟩
                    have := (h1.row.lt k e.symm).1
                    omega
                  case measure => simp [intOf]; omega
                · obtain HGL : Hid (gs.length = hs.length) := Lib.hid (by omega)
                  obtain ⟨wq, rfl⟩ : ∃ wq : World, wq = wr := ⟨_, rfl⟩
                  go_wp2
                  go_loopw [10, 65] (fun _ v wc => ∃ j : Nat, j ≤ hs.length ∧ v = .int .i64 j ∧ Drawn wq wc) (fun _ v _ => hs.length - (intOf v).toNat)
                  case atStart => exact ⟨0, Nat.zero_le _, rfl, Drawn.refl _⟩
                  case round =>
                    obtain ⟨j, hj, rfl, hd⟩ := hrel
                    by_cases hlj : j < hs.length
                    · obtain ⟨x, hx⟩ : ∃ x, hs[j]? = some x := ⟨_, List.getElem?_eq_getElem hlj⟩
                      obtain ⟨y, hy⟩ : ∃ y, gs[j]? = some y := ⟨_, List.getElem?_eq_getElem (by rw [HGL.out]; exact hlj)⟩
                      obtain ⟨x', hx', hyn, hyo, _⟩ := HG3.own j y hy
                      obtain rfl := Option.some.inj (hx.symm.trans hx')
                      obtain ⟨gb, cap, rfl, _, _⟩ := World.ownsRow.form HG3.row (by rw [HGL.out]; omega)
                      have hcg := World.ownsRow.cellAt HG3.row j (by rw [HGL.out]; omega)
                      rw [List.getElem?_map, hy] at hcg
                      obtain ⟨A2, n2, c2⟩ := y
                      simp only at hyn
                      subst hyn
                      simp only [Option.map_some, Hd.val] at hcg
                      obtain ⟨a, rfl, hc, hal, _⟩ := HA3.cell _ x hx
                      simp only [Hd.val] at hc
                      have hxo := (HA3.own j x hx).reads
                      rw [HM3.out j x hx] at hxo
                      have HXO := Lib.hid hxo
                      have HYO := Lib.hid hyo.reads
                      have hxn := HA3.len j x hx
                      have hd9 : d ≤ 90 := by have := HSd.out; omega
                      replace hcg : wr.cell? ⟨gb, j, none⟩ = _ := (World.cell?_of_block (a := ⟨gb, j, none⟩) ((hd.below wq.heap.size).block _ (World.block_lt_of_cell? _ _ hcg))).trans hcg
                      replace hc : wr.cell? (a.add j) = _ := (World.cell?_of_block (a := a.add j) ((hd.below wq.heap.size).block _ (World.block_lt_of_cell? _ _ hc))).trans hc
                      have HXd := Lib.hid (hxo.new (hd.below _))
                      have HYd := Lib.hid (hyo.reads.new (hd.below _))
                      clear hx hy hx' hyo hxo
                      go_wp2
                      go_quiet ((go_at_call 25; exact Calls.quiet_of ((marked_calls x.A A2 x.n (x.n + d) x.c c2 R j _ (HXd.out.drawn _) (HYd.out.drawn _) (by omega) (by omega)).mono fun _ _ ⟨h1, h2⟩ => ⟨h1, h2.out⟩)))
                      go_wp2
                      go_roundw
                      case rel => exact ⟨j + 1, by omega, by go_num, hd.step _⟩
                      case measure => simp [intOf]; omega
                    · obtain rfl : j = hs.length := by omega
                      clear hlj
                      go_wp2
                      go_roundw
                      case rel =>
                        have hbd := hd.below wq.heap.size
                        refine ⟨k + 1, P3, by omega, by go_num, HA3.kept (fun k hk => hbd.block k (by omega)), HM3, (HT.keep (HS3.block _ HT.lt ?_)).keep (hbd.block _ (Nat.lt_of_lt_of_le HT.lt hsz3)), (HS2.trans HS3).new hbd⟩
                        rintro ⟨i, h, hi, hb⟩
                        have := HA3.lt i h _ hi hb
                        omega
                      case measure => simp [intOf]; omega
            · obtain rfl : k = 3 := by omega
              clear hlk
              go_wp2
              go_roundw
              case rel => exact ⟨R + 1, P2, by omega, by go_num, HA2, HS2⟩
              case measure => simp [intOf]; omega
    · obtain rfl : R = 2 := by omega
      clear hlt
      go_wp2
      go_ret
      exact ⟨rfl, ⟨P, HA⟩, HS⟩
end Go.Proofs.Ytlcbjjgmkllceaa
