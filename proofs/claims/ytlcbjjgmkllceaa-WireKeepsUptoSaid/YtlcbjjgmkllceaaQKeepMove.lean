import Derived.Test.YtlcbjjgmkllceaaQKeepPush
import Derived.Test.YtlcbjjgmkllceaaQWireTells
/- WireKeeps: what the readers' loop holds. -/
namespace Go.Proofs.Ytlcbjjgmkllceaa
open Go.RowKit

def FX (F L : Nat → Prop) (x y : Nat) (k : Nat) : Prop := F k ∨ L k ∨ k = x ∨ k = y
theorem Trio.stepK {w w' : World} {b : Nat} {x y z : Value} {F F' : Nat → Prop} (h : Trio w b x y z) (hs : Step w w' F F') (hf : ¬ F b) : Trio w' b x y z := h.keep (hs.block b h.lt hf)
theorem OB.stepX {w w' : World} {base e : Nat} {v : Value} {p : List UInt8} {G : Nat → Prop} (h : OB w base e v p) (hs : Step w w' G G) (hb : ∀ k, G k → k < base) : OB w' base e v p :=
  h.sameK fun k hk => hs.block k (h.at_base k hk).2 fun hg => by have := hb k hg; have := (h.at_base k hk).1; omega
/-- what stands ahead of the loop -/
structure KR (w wl : World) (F L : Nat → Prop) (B9 B10 gF : Nat) (A4 A5 : Option Addr) (c4 c5 : Nat) (P V : List UInt8) : Prop where
  r4 : RB wl A4 c4 P
  r5 : RB wl A5 c5 V
  fF : ∀ k, F k → w.heap.size ≤ k ∧ k < wl.heap.size ∧ ¬ L k ∧ k ≠ B9 ∧ k ≠ B10 ∧ k ≠ gF
  fL : ∀ k, L k → w.heap.size ≤ k ∧ k < wl.heap.size ∧ k ≠ B9 ∧ k ≠ B10 ∧ k ≠ gF
  f9 : w.heap.size ≤ B9 ∧ B9 < wl.heap.size ∧ B9 ≠ B10 ∧ B9 ≠ gF
  f10 : w.heap.size ≤ B10 ∧ B10 < wl.heap.size ∧ B10 ≠ gF
  fr4 : Free (FX F L B9 B10) A4 P
  fr5 : Free (FX F L B9 B10) A5 V
  bl : Below w.heap.size w wl
theorem KR.lt {w wl : World} {F L : Nat → Prop} {B9 B10 gF : Nat} {A4 A5 : Option Addr} {c4 c5 : Nat} {P V : List UInt8} (h : KR w wl F L B9 B10 gF A4 A5 c4 c5 P V) : ∀ k, FX F L B9 B10 k → w.heap.size ≤ k ∧ k < wl.heap.size ∧ k ≠ gF := by
  rintro k (e | e | e | e)
  · have := h.fF k e; exact ⟨this.1, this.2.1, this.2.2.2.2.2⟩
  · have := h.fL k e; exact ⟨this.1, this.2.1, this.2.2.2.2⟩
  · rw [e]; exact ⟨h.f9.1, h.f9.2.1, h.f9.2.2.2⟩
  · rw [e]; exact ⟨h.f10.1, h.f10.2.1, h.f10.2.2⟩
section
variable {w wl wr w' : World} {F L : Nat → Prop} {b b2 B9 B10 gF : Nat} {A4 A5 : Option Addr} {c4 c5 : Nat} {P V : List UInt8} {at_ e at2 e2 : Nat} {vt vw vt' vw' : Value} {hs gs : List Hd} {ps qs : List (List UInt8)}
theorem stepFX (h : Step wr w' F F) : Step wr w' (FX F L B9 B10) (FX F L B9 B10) := h.mono (fun _ hk => .inl hk) (fun _ hk => .inl hk)
theorem stepLX (h : Step wr w' L L) : Step wr w' (FX F L B9 B10) (FX F L B9 B10) := h.mono (fun _ hk => .inr (.inl hk)) (fun _ hk => .inl hk)
theorem step9X (h : Step wr w' (· = B9) (· = B9)) : Step wr w' (FX F L B9 B10) (FX F L B9 B10) := h.mono (fun _ hk => .inr (.inr (.inl hk))) (fun _ hk => .inl hk)
theorem step10X (h : Step wr w' (· = B10) (· = B10)) : Step wr w' (FX F L B9 B10) (FX F L B9 B10) := h.mono (fun _ hk => .inr (.inr (.inr hk))) (fun _ hk => .inl hk)
theorem TL.stepX (k : KR w wl F L B9 B10 gF A4 A5 c4 c5 P V) (h : TL wl wr (.slice none 0 0) vt vw [] hs gs ps qs) (hst : Step wr w' (FX F L B9 B10) (FX F L B9 B10)) : TL wl w' (.slice none 0 0) vt vw [] hs gs ps qs :=
  h.step hst fun j hj t => by have := (k.lt j hj).2.1; have := (h.lt j t).1; omega
/-- r has taken, s not yet -/
structure KA (wl wr : World) (F L : Nat → Prop) (b b2 B9 B10 : Nat) (A4 A5 : Option Addr) (c4 c5 : Nat) (P V : List UInt8) (ra re at_ e la le at2 e2 : Nat) (vt vw : Value) (hs gs : List Hd) (ps qs : List (List UInt8)) : Prop where
  s : Step wl wr (FX F L B9 B10) (FX F L B9 B10)
  rd : Rd wr F b P ra re
  rl : Rd wr L b2 V la le
  t10 : Trio wr B10 (.slice A4 P.length c4) (.int .i64 at_) (.int .i64 e)
  t9 : Trio wr B9 (.slice A5 V.length c5) (.int .i64 at2) (.int .i64 e2)
  tl : TL wl wr (.slice none 0 0) vt vw [] hs gs ps qs
variable {ra re la le ra' re' : Nat}
theorem KA.new (h : KA wl wr F L b b2 B9 B10 A4 A5 c4 c5 P V ra re at_ e la le at2 e2 vt vw hs gs ps qs) (hb : Below wr.heap.size wr w') : KA wl w' F L b b2 B9 B10 A4 A5 c4 c5 P V ra re at_ e la le at2 e2 vt vw hs gs ps qs :=
  ⟨h.s.new hb, h.rd.new hb, h.rl.new hb, h.t10.new hb, h.t9.new hb, h.tl.new hb⟩
theorem KA.tookF (k : KR w wl F L B9 B10 gF A4 A5 c4 c5 P V) (h : KA wl wr F L b b2 B9 B10 A4 A5 c4 c5 P V ra re at_ e la le at2 e2 vt vw hs gs ps qs) {v : Value} {tv : Nat} {tq : List UInt8} (ht : TookAt wr w' F b P v ⟨tv, tq, ra', re'⟩) : KA wl w' F L b b2 B9 B10 A4 A5 c4 c5 P V ra' re' at_ e la le at2 e2 vt vw hs gs ps qs :=
  ⟨h.s.trans (stepFX ht.step), ht.rd, h.rl.step ht.step (fun j hj hf => (k.fF j hf).2.2.1 hj), h.t10.stepK ht.step (fun hf => (k.fF _ hf).2.2.2.2.1 rfl), h.t9.stepK ht.step (fun hf => (k.fF _ hf).2.2.2.1 rfl), h.tl.stepX k (stepFX ht.step)⟩
theorem KA.tookL (k : KR w wl F L B9 B10 gF A4 A5 c4 c5 P V) (h : KA wl wr F L b b2 B9 B10 A4 A5 c4 c5 P V ra re at_ e la le at2 e2 vt vw hs gs ps qs) {v : Value} {tv : Nat} {tq : List UInt8} (ht : TookAt wr w' L b2 V v ⟨tv, tq, ra', re'⟩) : KA wl w' F L b b2 B9 B10 A4 A5 c4 c5 P V ra re at_ e ra' re' at2 e2 vt vw hs gs ps qs :=
  ⟨h.s.trans (stepLX ht.step), h.rd.step ht.step (fun j hf hj => (k.fF j hf).2.2.1 hj), ht.rd, h.t10.stepK ht.step (fun hf => (k.fL _ hf).2.2.2.1 rfl), h.t9.stepK ht.step (fun hf => (k.fL _ hf).2.2.1 rfl), h.tl.stepX k (stepLX ht.step)⟩
theorem KA.put10 (k : KR w wl F L B9 B10 gF A4 A5 c4 c5 P V) (h : KA wl wr F L b b2 B9 B10 A4 A5 c4 c5 P V ra re at_ e la le at2 e2 vt vw hs gs ps qs) (x y : Nat) : KA wl (((wr.setCell ⟨B10, 0, none⟩ (.slice A4 P.length c4)).setCell ⟨B10, 1, none⟩ (.int .i64 x)).setCell ⟨B10, 2, none⟩ (.int .i64 y)) F L b b2 B9 B10 A4 A5 c4 c5 P V ra re x y la le at2 e2 vt vw hs gs ps qs :=
  have st := put3_step wr B10 (.slice A4 P.length c4) (.int .i64 x) (.int .i64 y)
  ⟨h.s.trans (step10X st), h.rd.step st (fun j hf hj => (k.fF j hf).2.2.2.2.1 hj), h.rl.step st (fun j hf hj => (k.fL j hf).2.2.2.1 hj), h.t10.put _ _ _, h.t9.stepK st k.f9.2.2.1, h.tl.stepX k (step10X st)⟩
theorem KA.put9 (k : KR w wl F L B9 B10 gF A4 A5 c4 c5 P V) (h : KA wl wr F L b b2 B9 B10 A4 A5 c4 c5 P V ra re at_ e la le at2 e2 vt vw hs gs ps qs) (x y : Nat) : KA wl (((wr.setCell ⟨B9, 0, none⟩ (.slice A5 V.length c5)).setCell ⟨B9, 1, none⟩ (.int .i64 x)).setCell ⟨B9, 2, none⟩ (.int .i64 y)) F L b b2 B9 B10 A4 A5 c4 c5 P V ra re at_ e la le x y vt vw hs gs ps qs :=
  have st := put3_step wr B9 (.slice A5 V.length c5) (.int .i64 x) (.int .i64 y)
  ⟨h.s.trans (step9X st), h.rd.step st (fun j hf hj => (k.fF j hf).2.2.2.1 hj), h.rl.step st (fun j hf hj => (k.fL j hf).2.2.1 hj), h.t10.stepK st (fun e => k.f9.2.2.1 e.symm), h.t9.put _ _ _, h.tl.stepX k (step9X st)⟩
/-- a row of the gathered lists has grown -/
theorem KA.grown (k : KR w wl F L B9 B10 gF A4 A5 c4 c5 P V) (h : KA wl wr F L b b2 B9 B10 A4 A5 c4 c5 P V ra re at_ e la le at2 e2 vt vw hs gs ps qs) {row : Option Nat} (hg : wr.grownBy w' row) (hrow : ∀ j, row = some j → wl.heap.size ≤ j) {hs' gs' : List Hd} {ps' qs' : List (List UInt8)} (ht : TL wl w' (.slice none 0 0) vt' vw' [] hs' gs' ps' qs') : KA wl w' F L b b2 B9 B10 A4 A5 c4 c5 P V ra re at_ e la le at2 e2 vt' vw' hs' gs' ps' qs' :=
  have st := Step.of_rowO hg
  ⟨h.s.far hg (fun j hj => .inl (hrow j hj)), h.rd.step st (fun j hf hj => by have := (k.fF j hf).2.1; have := hrow j hj; omega), h.rl.step st (fun j hf hj => by have := (k.fL j hf).2.1; have := hrow j hj; omega), h.t10.stepK st (fun e => by have := k.f10.2.1; have := hrow _ e; omega), h.t9.stepK st (fun e => by have := k.f9.2.1; have := hrow _ e; omega), ht⟩
end
theorem OB.rowX {w w' : World} {base e : Nat} {v : Value} {p : List UInt8} {row : Option Nat} (h : OB w base e v p) (hg : w.grownBy w' row) (hb : ∀ k, row = some k → k < base) : OB w' base e v p :=
  h.sameK fun k hk => hg.block k (h.at_base k hk).2 fun e => by have := hb k e.symm; have := (h.at_base k hk).1; omega
theorem takeS_q (P : List UInt8) (at_ e : Nat) (k n : Int) : (takeS P at_ e k n).q.length ≤ P.length := by
  unfold takeS WireMath.rawS WireMath.blobS
  repeat' split
  all_goals simp
  all_goals omega
theorem apartLL {w : World} {base base1 : Nat} {A : Option Addr} {n c : Nat} {hs : List Hd} (hl : LL w base1 (.slice A n c) hs) (ho : ∀ x ∈ hs, ∃ p, OB w base 5 (Hd.val x) p ∧ p.length + 90 ≤ 140737488355328) (ap : hs.Pairwise fun g h => apV g.val h.val) (nt : ∀ k, (Value.slice A n c).ownBlock = some k → ∀ x ∈ hs, (Hd.val x).ownBlock ≠ some k) (h0 : base ≤ w.heap.size) (hn : n = hs.length) (hz : hs.length ≤ 5100000000000) :
    Calls Try.prog 13 #[.slice A n c] w fun e w' => e = .returned (.bool true) ∧ Step w w' (feet hs) (feet hs) := by
  have hP : ∃ P : Nat → List UInt8, ∀ (i : Nat) (x : Hd), hs[i]? = some x → OB w base 5 x.val (P i) ∧ (P i).length + 90 ≤ 140737488355328 := by
    have : ∀ i : Nat, ∃ p : List UInt8, ∀ x : Hd, hs[i]? = some x → OB w base 5 x.val p ∧ p.length + 90 ≤ 140737488355328 := by
      intro i
      cases he : hs[i]? with
      | none => exact ⟨[], fun x hx => by cases hx⟩
      | some y =>
        obtain ⟨p, hp⟩ := ho y (List.mem_of_getElem? he)
        exact ⟨p, fun x hx => by obtain rfl := Option.some.inj hx; exact hp⟩
    exact ⟨fun i => (this i).choose, fun i x hx => (this i).choose_spec x hx⟩
  obtain ⟨P, hP⟩ := hP
  have HA : AP w base w.heap.size A hs P := by
    refine ⟨fun i x hx => ?_, fun i x hx => (hP i x hx).1, fun i x k hx hk => ((hP i x hx).1.at_base k hk).2, fun i j x y hx hy hij => ?_, fun i x hx => ?_⟩
    · obtain ⟨b, e1, e2, e3, e4⟩ := hl.cell i x hx
      refine ⟨b, e1, e2, e4, fun j y hy => ?_⟩
      obtain ⟨g, cap, e, _⟩ := World.ownsRow.form hl.out (by have := (List.getElem?_eq_some_iff.1 hx).1; omega)
      have hv := e
      injection e with e5
      refine nt b.block ?_ y (List.mem_of_getElem? hy)
      rw [hv]
      rw [e1] at e5
      obtain rfl := Option.some.inj e5
      rfl
    · obtain ⟨hi', rfl⟩ := List.getElem?_eq_some_iff.1 hx
      obtain ⟨hj', rfl⟩ := List.getElem?_eq_some_iff.1 hy
      rcases Nat.lt_or_gt_of_ne hij with h1 | h1
      · exact List.pairwise_iff_getElem.1 ap i j hi' hj' h1
      · exact (List.pairwise_iff_getElem.1 ap j i hj' hi' h1).symm
    · have h1 := (hP i x hx).2
      have h2 := (hP i x hx).1.len
      show x.n + 90 ≤ _
      have h3 : x.n = (P i).length := h2
      omega
  exact (apart_calls base A hs P n c w HA h0 hn hz).mono fun e w' ⟨h1, _, h3⟩ => ⟨h1, h3⟩
theorem wp_appendLKg {P : Program} {t : TypeId} {w : World} {ops : Array Oper} {rest : List Oper} {o : Oper} {a : Act} {Q : Exit → Act → World → Prop} (lt : LsT P t 23) (hw : Region.wanted o (yielded ops a.tmps) = true) (s x : Operand) (hop : o.op = .call { callee := .builtin .append, args := #[s, x], argTypes := #[t, t] })
    (base : Nat) (v : Value) (gs ys : List Hd) (hs : a.eval s = v) (ho : LL w base v gs) (A : Option Addr) (m c : Nat) (hx : a.eval x = .slice A m c) (hm : m = ys.length) (hc : ∀ (i : Nat) (y : Hd), ys[i]? = some y → ∃ b : Addr, A = some b ∧ w.cell? (b.add i) = some y.val) (hz : A = none → c = 0) (hlen : (gs.length + ys.length) * 24 ≤ 140737488355328) (hbase : base ≤ w.heap.size)
    (h : ∀ A' n' c' w', n' = (gs ++ ys).length → LL w' base (.slice A' n' c') (gs ++ ys) → w.grownBy w' v.ownBlock → ((Value.slice A' n' c').ownBlock = v.ownBlock ∨ (Value.slice A' n' c').ownBlock = some w.heap.size) → wpList P ops Q rest (a.put o.dst (.slice A' n' c')) w') : wpList P ops Q (o :: rest) a w :=
  wpList_step fun _ hK => by rw [if_pos hw]; exact op_appendLK lt s x hop base v gs ys hs ho A m c hx hm hc hz hlen hbase fun A' n' c' w' h1 h2 h3 h4 => hK _ _ (h A' n' c' w' h1 h2 h3 h4)
theorem row1 (w : World) (x : Hd) (t : TypeId) : ∀ (j : Nat) (z : Hd), [x][j]? = some z → ∃ b : Addr, some (⟨w.heap.size, 0, none⟩ : Addr) = some b ∧ (w.alloc (.cells #[x.val] t)).cell? (b.add j) = some z.val := fun j z hz =>
  (rowF w w.heap.size rfl [x] t 0 0 (Nat.zero_le _) j z hz).imp fun _ h => ⟨h.1, h.2.1⟩
/-- behind append(told, given): what Apart is asked, and what it leaves -/
structure KE (w wl w6 : World) (F L : Nat → Prop) (b B10 gF N : Nat) (A4 : Option Addr) (c4 : Nat) (P : List UInt8) (at_ e : Nat) (v : Value) (hs : List Hd) : Prop where
  ll : LL w6 wl.heap.size v (hs ++ [(⟨some ⟨gF, 0, none⟩, N, N + 40⟩ : Hd)])
  ob : ∀ x ∈ hs ++ [(⟨some ⟨gF, 0, none⟩, N, N + 40⟩ : Hd)], ∃ p, OB w6 w.heap.size 5 (Hd.val x) p ∧ p.length + 90 ≤ 140737488355328
  ap : (hs ++ [(⟨some ⟨gF, 0, none⟩, N, N + 40⟩ : Hd)]).Pairwise fun g h => apV g.val h.val
  nt : ∀ k, v.ownBlock = some k → ∀ x ∈ hs ++ [(⟨some ⟨gF, 0, none⟩, N, N + 40⟩ : Hd)], (Hd.val x).ownBlock ≠ some k
  rd : Rd w6 F b P at_ e
  t10 : Trio w6 B10 (.slice A4 P.length c4) (.int .i64 at_) (.int .i64 e)
  ft : ∀ k, feet (hs ++ [(⟨some ⟨gF, 0, none⟩, N, N + 40⟩ : Hd)]) k → w.heap.size ≤ k ∧ ¬ F k ∧ k ≠ B10
  bl : Below w.heap.size w w6
theorem KA.ends {w wl wr w6 : World} {F L : Nat → Prop} {b b2 B9 B10 gF N : Nat} {A4 A5 : Option Addr} {c4 c5 : Nat} {P V : List UInt8} {at_ e at2 e2 : Nat} {vt vw v : Value} {hs gs : List Hd} {ps qs : List (List UInt8)} (k : KR w wl F L B9 B10 gF A4 A5 c4 c5 P V) (h : KA wl wr F L b b2 B9 B10 A4 A5 c4 c5 P V at_ e at_ e at2 e2 at2 e2 vt vw hs gs ps qs)
    (hG : OB wl gF 5 (.slice (some ⟨gF, 0, none⟩) N (N + 40)) V) (hV : V.length + 90 ≤ 140737488355328) (hps : ∀ p ∈ ps, p.length + 90 ≤ 140737488355328) (hgw : w.heap.size ≤ gF)
    (hl : LL w6 wl.heap.size v (hs ++ [(⟨some ⟨gF, 0, none⟩, N, N + 40⟩ : Hd)])) (hg : wr.grownBy w6 vt.ownBlock) (hv : v.ownBlock = vt.ownBlock ∨ v.ownBlock = some wr.heap.size) :
    KE w wl w6 F L b B10 gF N A4 c4 P at_ e v hs := by
  have hgl : gF < wl.heap.size := (hG.at_base gF rfl).2
  have hle := h.s.size
  have st := Step.of_rowO hg
  have hrow : ∀ j, vt.ownBlock = some j → wl.heap.size ≤ j := fun j e => (h.tl.told.lt j e).1
  have hx : ∀ x ∈ hs, ∀ j, x.val.ownBlock = some j → wl.heap.size ≤ j ∧ j < wr.heap.size ∧ vt.ownBlock ≠ some j := fun x hx j e => by
    have h1 := h.tl.lt j (.inr (.inr (.inr (.inl ⟨x, hx, e⟩))))
    exact ⟨h1.1, h1.2, fun e2 => (h.tl.dt j e2).2.2.1 x hx e⟩
  have hw1 := k.bl.size
  refine ⟨hl, fun x hxm => ?_, ?_, fun j hj x hxm e2 => ?_, h.rd.step st (fun j hf e => by have := (k.fF j hf).2.1; have := hrow j e; omega), h.t10.stepK st (fun e => by have := k.f10.2.1; have := hrow _ e; omega), fun j hj => ?_, ?_⟩
  · rcases List.mem_append.1 hxm with hm | hm
    · obtain ⟨p, hpm, ho⟩ := h.tl.hob x hm
      exact ⟨p, (ho.mono hw1).sameK fun j e => hg.block j (hx x hm j e).2.1 (fun e2 => (hx x hm j e).2.2 e2.symm), hps p hpm⟩
    · obtain rfl := List.mem_singleton.1 hm
      refine ⟨V, ((hG.sameK (w' := wr) fun j e => ?_).sameK (w' := w6) fun j e => ?_).mono hgw, hV⟩
      · obtain rfl := Option.some.inj e
        exact h.s.block _ hgl (fun hf => (k.lt _ hf).2.2 rfl)
      · obtain rfl := Option.some.inj e
        exact hg.block _ (by simp only; omega) (fun e2 => by have := hrow _ e2.symm; simp only at this; omega)
  · refine List.pairwise_append.2 ⟨h.tl.ap, List.pairwise_singleton _ _, fun x hxm y hy => ?_⟩
    obtain rfl := List.mem_singleton.1 hy
    exact (apV_lt (u := Hd.val ⟨some ⟨gF, 0, none⟩, N, N + 40⟩) (s := wl.heap.size) (fun j e => by obtain rfl := Option.some.inj e; exact hgl) (fun j e => (hx x hxm j e).1)).symm
  · rcases List.mem_append.1 hxm with hm | hm
    · rcases hv with e3 | e3
      · exact (hx x hm j e2).2.2 (e3 ▸ hj)
      · rw [hj] at e3; have := Option.some.inj e3; have := (hx x hm j e2).2.1; omega
    · obtain rfl := List.mem_singleton.1 hm
      obtain rfl := Option.some.inj e2
      rcases hv with e3 | e3
      · have := hrow _ (e3 ▸ hj); simp only at this; omega
      · rw [hj] at e3; have := Option.some.inj e3; simp only at this; omega
  · obtain ⟨i, x, hxi, e2⟩ := hj
    rcases List.mem_append.1 (List.mem_of_getElem? hxi) with hm | hm
    · have h1 := (hx x hm j e2).1
      exact ⟨by omega, fun hf => by have := (k.fF j hf).2.1; omega, fun e3 => by have := k.f10.2.1; omega⟩
    · obtain rfl := List.mem_singleton.1 hm
      obtain rfl := Option.some.inj e2
      exact ⟨hgw, fun hf => (k.fF _ hf).2.2.2.2.2 rfl, fun e3 => k.f10.2.2 e3.symm⟩
  · exact (k.bl.trans (h.s.below k.bl.size (fun j hj => (k.lt j hj).1))).grown hg (Nat.le_trans k.bl.size hle) (fun j e => by have := hrow j e; omega)
end Go.Proofs.Ytlcbjjgmkllceaa
