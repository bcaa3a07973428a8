import Derived.Test.YtlcbjjgmkllceaaQFrameKeeps
import Derived.Test.YtlcbjjgmkllceaaQRowTools
import Derived.Test.YtlcbjjgmkllceaaQWireScript
/- WireKeeps: lists that are told and what they were: SameAll; what a loop gathers. -/
namespace Go.Proofs.Ytlcbjjgmkllceaa
open Go.RowKit
attribute [local go_sem ↓] Go.wp_at_zero Go.wp_at_succ

theorem lsG : ElT Try.prog 36 23 (.slice none 0 0) 1 24 := ⟨Try.underlying36, by kernel_rfl, rfl, by decide⟩
/-- a list of lists as it reads -/
structure Rds (w : World) (A : Option Addr) (hs : List Hd) (ps : List (List UInt8)) : Prop where
  len : hs.length = ps.length
  at_ : ∀ (i : Nat) (h : Hd) (p : List UInt8), hs[i]? = some h → ps[i]? = some p → (∃ a : Addr, A = some a ∧ w.cell? (a.add i) = some h.val) ∧ RB w h.A h.c p ∧ h.n = p.length
theorem Rds.new {w w' : World} {A : Option Addr} {hs : List Hd} {ps : List (List UInt8)} (h : Rds w A hs ps) (hb : Below w.heap.size w w') : Rds w' A hs ps :=
  ⟨h.len, fun i x p hx hp => by
    obtain ⟨⟨a, ha, hc⟩, hr, hn⟩ := h.at_ i x p hx hp
    exact ⟨⟨a, ha, (hb.cell (World.block_lt_of_cell? _ _ hc)).trans hc⟩, hr.new hb, hn⟩⟩
set_option maxHeartbeats 800000 in
set_option maxRecDepth 100000 in
theorem sameAll_calls (A B : Option Addr) (hs gs : List Hd) (ps : List (List UInt8)) (n c d : Nat) (w : World) (hA : Rds w A hs ps) (hB : Rds w B gs ps) (hn : n = ps.length) (hl : n ≤ 1099511627776) :
    Calls Try.prog 44 #[.slice A n c, .slice B n d] w fun r w' => r = .returned (.bool true) ∧ Below w.heap.size w w' := by
  have HA := Lib.hid hA
  have HB := Lib.hid hB
  have HN := Lib.hid hn
  have hnn : ((n : Int) != n) = false := bne_self_eq_false _
  clear hA hB hn
  go_enter Try.func44, Try.ntmps44
  go_wp2
  go_loopw [5, 13] (fun _ iv wr => ∃ j : Nat, j ≤ n ∧ iv = .int .i64 j ∧ Below w.heap.size w wr) (fun _ iv _ => n - (intOf iv).toNat)
  case atStart => exact ⟨0, Nat.zero_le _, rfl, Below.refl _ _⟩
  case round =>
    obtain ⟨j, hj, rfl, HBB⟩ := hrel
    by_cases hlt : j < n
    · obtain ⟨p, hp⟩ : ∃ p, ps[j]? = some p := ⟨_, List.getElem?_eq_getElem (by rw [← HN.out]; exact hlt)⟩
      obtain ⟨x, hx⟩ : ∃ x, hs[j]? = some x := ⟨_, List.getElem?_eq_getElem (by rw [HA.out.len, ← HN.out]; exact hlt)⟩
      obtain ⟨y, hy⟩ : ∃ y, gs[j]? = some y := ⟨_, List.getElem?_eq_getElem (by rw [HB.out.len, ← HN.out]; exact hlt)⟩
      obtain ⟨⟨a, rfl, k0⟩, hr, hxn⟩ := (HA.out.new HBB).at_ j x p hx hp
      obtain ⟨⟨b, rfl, l0⟩, hs9, hyn⟩ := (HB.out.new HBB).at_ j y p hy hp
      obtain ⟨xA, xn, xc⟩ := x
      obtain ⟨yA, yn, yc⟩ := y
      change wr.cell? (a.add j) = some (.slice xA xn xc) at k0
      change wr.cell? (b.add j) = some (.slice yA yn yc) at l0
      have HR := Lib.hid (hr.new (below_drew wr.heap.size wr))
      have HS := Lib.hid (hs9.new (below_drew wr.heap.size wr))
      have HXN := Lib.hid hxn
      have HYN := Lib.hid hyn
      have HPP := Lib.hid (beq_self_eq_true p)
      clear hp hx hy hr hs9 hxn hyn
      go_wp2
      go_region_held3 (fun w' => w'.cell? (a.add j) = some (.slice xA xn xc) ∧ w'.cell? (b.add j) = some (.slice yA yn yc)) (go_keep) (first
        | (go_at_call 9; go_loud (with_reducible refine (sameR xA yA p p _ _ xc yc _ HR.out HS.out HXN.out HYN.out true HPP.out).mono ?_); rintro r5 w5 ⟨rfl, hd5⟩; have hb5 := hd5.below wr.drew.heap.size; have z0 := (hb5.cell (World.block_lt_of_cell? _ _ k0)).trans k0; have z1 := (hb5.cell (World.block_lt_of_cell? _ _ l0)).trans l0))
      go_wp2
      go_roundw
      case rel => exact ⟨j + 1, by omega, by go_num, below_then HBB.drew hb5⟩
      case measure => simp [intOf]; omega
    · obtain rfl : j = n := by omega
      clear hlt
      go_wp2
      go_ret
      exact ⟨rfl, HBB⟩
/-- what a loop gathers: the lists told (vt, hs: ps), what they were (vw, gs: qs), and one list more (va: Y); nothing of it is another's -/
structure TL (w0 w : World) (va vt vw : Value) (Y : List UInt8) (hs gs : List Hd) (ps qs : List (List UInt8)) : Prop where
  all : OB w w0.heap.size 5 va Y
  told : LL w w0.heap.size vt hs
  was : LL w w0.heap.size vw gs
  hl : hs.length = ps.length
  gl : gs.length = qs.length
  ho : ∀ (i : Nat) (h : Hd) (p : List UInt8), hs[i]? = some h → ps[i]? = some p → OB w w0.heap.size 5 h.val p
  go : ∀ (i : Nat) (h : Hd) (p : List UInt8), gs[i]? = some h → qs[i]? = some p → OB w w0.heap.size 5 h.val p
  ap : hs.Pairwise fun g h => apV g.val h.val
  dt : ∀ k, vt.ownBlock = some k → va.ownBlock ≠ some k ∧ vw.ownBlock ≠ some k ∧ (∀ h ∈ hs, h.val.ownBlock ≠ some k) ∧ ∀ h ∈ gs, h.val.ownBlock ≠ some k
  dw : ∀ k, vw.ownBlock = some k → va.ownBlock ≠ some k ∧ (∀ h ∈ hs, h.val.ownBlock ≠ some k) ∧ ∀ h ∈ gs, h.val.ownBlock ≠ some k
  da : ∀ k, va.ownBlock = some k → ∀ h ∈ hs, h.val.ownBlock ≠ some k
/-- the blocks that it has -/
def TLb (va vt vw : Value) (hs gs : List Hd) (k : Nat) : Prop := va.ownBlock = some k ∨ vt.ownBlock = some k ∨ vw.ownBlock = some k ∨ (∃ h ∈ hs, h.val.ownBlock = some k) ∨ ∃ h ∈ gs, h.val.ownBlock = some k
theorem mem_at {α : Type} {l : List α} {x : α} (h : x ∈ l) : ∃ i : Nat, l[i]? = some x := by
  obtain ⟨i, hi, rfl⟩ := List.getElem_of_mem h
  exact ⟨i, List.getElem?_eq_getElem hi⟩
theorem get_of {α β : Type} {l : List α} {m : List β} (he : l.length = m.length) {i : Nat} {x : α} (h : l[i]? = some x) : ∃ y, m[i]? = some y :=
  ⟨_, List.getElem?_eq_getElem (by rw [← he]; exact (List.getElem?_eq_some_iff.1 h).1)⟩
theorem TL.hob {w0 w : World} {va vt vw : Value} {Y : List UInt8} {hs gs : List Hd} {ps qs : List (List UInt8)} (h : TL w0 w va vt vw Y hs gs ps qs) (x : Hd) (hx : x ∈ hs) : ∃ p ∈ ps, OB w w0.heap.size 5 x.val p := by
  obtain ⟨i, hi⟩ := mem_at hx
  obtain ⟨p, hp⟩ := get_of h.hl hi
  exact ⟨p, List.mem_of_getElem? hp, h.ho i x p hi hp⟩
theorem TL.gob {w0 w : World} {va vt vw : Value} {Y : List UInt8} {hs gs : List Hd} {ps qs : List (List UInt8)} (h : TL w0 w va vt vw Y hs gs ps qs) (x : Hd) (hx : x ∈ gs) : ∃ p ∈ qs, OB w w0.heap.size 5 x.val p := by
  obtain ⟨i, hi⟩ := mem_at hx
  obtain ⟨p, hp⟩ := get_of h.gl hi
  exact ⟨p, List.mem_of_getElem? hp, h.go i x p hi hp⟩
theorem TL.lt {w0 w : World} {va vt vw : Value} {Y : List UInt8} {hs gs : List Hd} {ps qs : List (List UInt8)} (h : TL w0 w va vt vw Y hs gs ps qs) : ∀ k, TLb va vt vw hs gs k → w0.heap.size ≤ k ∧ k < w.heap.size := by
  rintro k (h1 | h1 | h1 | ⟨x, hx, h1⟩ | ⟨x, hx, h1⟩)
  · exact h.all.at_base k h1
  · exact h.told.lt k h1
  · exact h.was.lt k h1
  · obtain ⟨p, _, ho⟩ := h.hob x hx; exact ho.at_base k h1
  · obtain ⟨p, _, ho⟩ := h.gob x hx; exact ho.at_base k h1
theorem OB.sameK {w w' : World} {base e : Nat} {v : Value} {p : List UInt8} (h : OB w base e v p) (hk : ∀ k, v.ownBlock = some k → w'.heap[k]? = w.heap[k]?) : OB w' base e v p := by
  refine ⟨h.out.1, ?_⟩
  rcases h.out.2 with h1 | ⟨b, cap, cur, e1, hb, hh, r⟩
  · exact .inl h1
  · exact .inr ⟨b, cap, cur, e1, hb, (hk b (by rw [e1]; rfl)).trans hh, r⟩
theorem LL.sameK {w w' : World} {base : Nat} {v : Value} {hs : List Hd} (h : LL w base v hs) (hk : ∀ k, v.ownBlock = some k → w'.heap[k]? = w.heap[k]?) : LL w' base v hs := by
  refine ⟨h.out.1, ?_⟩
  rcases h.out.2 with h1 | ⟨b, cap, cur, e1, hb, hh, r⟩
  · exact .inl h1
  · exact .inr ⟨b, cap, cur, e1, hb, (hk b (by rw [e1]; rfl)).trans hh, r⟩
theorem TL.keep {w0 w w' : World} {va vt vw : Value} {Y : List UInt8} {hs gs : List Hd} {ps qs : List (List UInt8)} (h : TL w0 w va vt vw Y hs gs ps qs) (hk : ∀ k, TLb va vt vw hs gs k → w'.heap[k]? = w.heap[k]?) : TL w0 w' va vt vw Y hs gs ps qs :=
  ⟨h.all.sameK fun k e => hk k (.inl e), h.told.sameK fun k e => hk k (.inr (.inl e)), h.was.sameK fun k e => hk k (.inr (.inr (.inl e))), h.hl, h.gl,
    fun i x p hx hp => (h.ho i x p hx hp).sameK fun k e => hk k (.inr (.inr (.inr (.inl ⟨x, List.mem_of_getElem? hx, e⟩)))),
    fun i x p hx hp => (h.go i x p hx hp).sameK fun k e => hk k (.inr (.inr (.inr (.inr ⟨x, List.mem_of_getElem? hx, e⟩)))), h.ap, h.dt, h.dw, h.da⟩
theorem TL.new {w0 w w' : World} {va vt vw : Value} {Y : List UInt8} {hs gs : List Hd} {ps qs : List (List UInt8)} (h : TL w0 w va vt vw Y hs gs ps qs) (hb : Below w.heap.size w w') : TL w0 w' va vt vw Y hs gs ps qs := h.keep fun k hk => hb.block k (h.lt k hk).2
theorem TL.step {w0 w w' : World} {F F' : Nat → Prop} {va vt vw : Value} {Y : List UInt8} {hs gs : List Hd} {ps qs : List (List UInt8)} (h : TL w0 w va vt vw Y hs gs ps qs) (hs9 : Step w w' F F') (hd : ∀ k, F k → ¬ TLb va vt vw hs gs k) : TL w0 w' va vt vw Y hs gs ps qs := h.keep fun k hk => hs9.block k (h.lt k hk).2 fun hf => hd k hf hk
theorem TL.start (w0 w : World) : TL w0 w (.slice none 0 0) (.slice none 0 0) (.slice none 0 0) [] [] [] [] [] :=
  ⟨⟨World.ownsRow_nil _ _ _ 1⟩, LL.nil _ _, LL.nil _ _, rfl, rfl, fun i h p hx => by simp at hx, fun i h p hx => by simp at hx, List.Pairwise.nil, fun k e => by simp [Value.ownBlock] at e, fun k e => by simp [Value.ownBlock] at e, fun k e => by simp [Value.ownBlock] at e⟩
/-- another list in the place of va -/
theorem TL.setAll {w0 w w' : World} {va va' vt vw : Value} {Y Y' : List UInt8} {hs gs : List Hd} {ps qs : List (List UInt8)} (h : TL w0 w va vt vw Y hs gs ps qs) (hn : NewB w w' va' Y') (hb : w0.heap.size ≤ w.heap.size) : TL w0 w' va' vt vw Y' hs gs ps qs := by
  have h1 := h.new hn.below
  have hge : ∀ k, va'.ownBlock = some k → w.heap.size ≤ k := fun k e => (hn.own.at_base k e).1
  have hlt := h.lt
  refine ⟨hn.own.mono hb, h1.told, h1.was, h.hl, h.gl, h1.ho, h1.go, h.ap, fun k e => ⟨fun e2 => ?_, (h.dt k e).2⟩, fun k e => ⟨fun e2 => ?_, (h.dw k e).2⟩, fun k e x hx e2 => ?_⟩
  · have := hge k e2; have := (hlt k (.inr (.inl e))).2; omega
  · have := hge k e2; have := (hlt k (.inr (.inr (.inl e)))).2; omega
  · have := hge k e; have := (hlt k (.inr (.inr (.inr (.inl ⟨x, hx, e2⟩))))).2; omega
theorem pair2 {α β : Type} {l : List α} {m : List β} {a b : α} {i : Nat} {x : α} (he : m.length = l.length) (h : (l ++ [a, b])[i]? = some x) : (l[i]? = some x ∧ i < m.length) ∨ (i = m.length ∧ x = a) ∨ (i = m.length + 1 ∧ x = b) := by
  rcases Nat.lt_trichotomy i l.length with h1 | h1 | h1
  · rw [List.getElem?_append_left h1] at h; exact .inl ⟨h, by omega⟩
  · rw [List.getElem?_append_right (by omega), h1, Nat.sub_self] at h
    simp at h; exact .inr (.inl ⟨by omega, h.symm⟩)
  · rw [List.getElem?_append_right (by omega)] at h
    obtain ⟨j, hj⟩ : ∃ j, i - l.length = j + 1 := ⟨i - l.length - 1, by omega⟩
    rw [hj] at h
    match j, h with
    | 0, h => simp at h; exact .inr (.inr ⟨by omega, h.symm⟩)
    | j + 1, h => simp at h
end Go.Proofs.Ytlcbjjgmkllceaa
