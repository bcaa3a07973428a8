import Derived.Test.YtlcbjjgmkllceaaQApartWalk
/- Lists of bytes that lie apart: how they are gathered, and Apart over them. -/
namespace Go.Proofs.Ytlcbjjgmkllceaa
open Go.RowKit

theorem apV.symm {u v : Value} (h : apV u v) : apV v u := by
  unfold apV at *
  rcases h with h | h
  · by_cases hv : v.ownBlock = none
    · exact .inl hv
    · exact .inr (by rw [h]; exact hv)
  · exact .inr (Ne.symm h)
/-- lists of bytes of the call's own, in blocks from lo up to hi, no two in one -/
structure Apt (w : World) (lo hi : Nat) (hs : List Hd) : Prop where
  own : ∀ h ∈ hs, ∃ p, OB w lo 5 (Hd.val h) p
  lt : ∀ h ∈ hs, ∀ k, (Hd.val h).ownBlock = some k → k < hi
  apart : hs.Pairwise fun g h => apV g.val h.val
  len : ∀ h ∈ hs, (h : Hd).n + 90 ≤ 140737488355328
theorem Apt.nil (w : World) (lo hi : Nat) : Apt w lo hi [] := ⟨fun h hh => absurd hh (by simp), fun h hh => absurd hh (by simp), List.Pairwise.nil, fun h hh => absurd hh (by simp)⟩
theorem Apt.one {w : World} {lo hi n c : Nat} {A : Option Addr} {p : List UInt8} (h : OB w lo 5 (.slice A n c) p) (hs : w.heap.size ≤ hi) (hl : p.length + 90 ≤ 140737488355328) : Apt w lo hi [⟨A, n, c⟩] := by
  refine ⟨fun g hg => ?_, fun g hg k hk => ?_, List.pairwise_singleton _ _, fun g hg => ?_⟩ <;> obtain rfl := List.mem_singleton.1 hg
  · exact ⟨p, h⟩
  · exact Nat.lt_of_lt_of_le (h.at_base k hk).2 hs
  · have := h.len
    show n + 90 ≤ _
    omega
theorem Apt.keep {w w' : World} {lo hi : Nat} {hs : List Hd} (h : Apt w lo hi hs) (hk : ∀ k, lo ≤ k → k < hi → w'.heap[k]? = w.heap[k]?) : Apt w' lo hi hs := by
  refine ⟨fun g hg => ?_, h.lt, h.apart, h.len⟩
  obtain ⟨p, ho⟩ := h.own g hg
  refine ⟨p, ho.out.1, ?_⟩
  rcases ho.out.2 with h1 | ⟨b, cap, cur, e1, hb, hh, r⟩
  · exact .inl h1
  · exact .inr ⟨b, cap, cur, e1, hb, (hk b hb (h.lt g hg b (by rw [e1]; rfl))).trans hh, r⟩
theorem Apt.new {w w' : World} {lo hi : Nat} {hs : List Hd} (h : Apt w lo hi hs) (hb : Below w.heap.size w w') (hh : hi ≤ w.heap.size) : Apt w' lo hi hs := h.keep fun k _ h2 => hb.block k (by omega)
theorem Apt.mono {w : World} {lo hi lo' hi' : Nat} {hs : List Hd} (h : Apt w lo hi hs) (h1 : lo' ≤ lo) (h2 : hi ≤ hi') : Apt w lo' hi' hs :=
  ⟨fun g hg => (h.own g hg).imp fun _ ho => ho.mono h1, fun g hg k hk => Nat.lt_of_lt_of_le (h.lt g hg k hk) h2, h.apart, h.len⟩
theorem Apt.append {w : World} {a b c d lo hi : Nat} {hs gs : List Hd} (h : Apt w a b hs) (g : Apt w c d gs) (hd : b ≤ c ∨ d ≤ a) (h1 : lo ≤ a) (h2 : lo ≤ c) (h3 : b ≤ hi) (h4 : d ≤ hi) : Apt w lo hi (hs ++ gs) := by
  have h' := h.mono h1 h3
  have g' := g.mono h2 h4
  refine ⟨fun x hx => (List.mem_append.1 hx).elim (h'.own x) (g'.own x), fun x hx => (List.mem_append.1 hx).elim (h'.lt x) (g'.lt x), List.pairwise_append.2 ⟨h.apart, g.apart, fun x hx y hy => ?_⟩, fun x hx => (List.mem_append.1 hx).elim (h.len x) (g.len x)⟩
  by_cases hn : (Hd.val x).ownBlock = none
  · exact .inl hn
  · refine .inr fun e => ?_
    obtain ⟨k, hk⟩ := Option.ne_none_iff_exists'.1 hn
    obtain ⟨p, hp⟩ := h.own x hx
    obtain ⟨q, hq⟩ := g.own y hy
    have e1 := h.lt x hx k hk
    have e2 := (hp.at_base k hk).1
    have e3 := g.lt y hy k (e.symm.trans hk)
    have e4 := (hq.at_base k (e.symm.trans hk)).1
    omega
set_option maxRecDepth 100000 in
/-- Apart of lists that lie apart -/
theorem apartN (lo hi : Nat) (a : Option Addr) (hs : List Hd) (n c : Nat) (w : World) (h : Apt w lo hi hs) (hhi : hi ≤ w.heap.size) (hlo : lo ≤ w.heap.size) (hn : n = hs.length) (hc : ∀ (i : Nat) (x : Hd), hs[i]? = some x → ∃ b : Addr, a = some b ∧ w.cell? (b.add i) = some x.val ∧ (b.block < lo ∨ hi ≤ b.block)) (hl : hs.length ≤ 5100000000000) :
    Calls Try.prog 13 #[.slice a n c] w fun e w' => e = .returned (.bool true) ∧ Below lo w w' := by
  have hP : ∃ P : Nat → List UInt8, ∀ (i : Nat) (x : Hd), hs[i]? = some x → OB w lo 5 x.val (P i) := by
    have : ∀ i : Nat, ∃ p : List UInt8, ∀ x : Hd, hs[i]? = some x → OB w lo 5 x.val p := by
      intro i
      cases he : hs[i]? with
      | none => exact ⟨[], fun x hx => by cases hx⟩
      | some y =>
        obtain ⟨p, hp⟩ := h.own y (List.mem_of_getElem? he)
        exact ⟨p, fun x hx => by obtain rfl := Option.some.inj hx; exact hp⟩
    exact ⟨fun i => (this i).choose, fun i x hx => (this i).choose_spec x hx⟩
  obtain ⟨P, hP⟩ := hP
  have HA : AP w lo w.heap.size a hs P := by
    refine ⟨fun i x hx => ?_, hP, fun i x k hx hk => Nat.lt_of_lt_of_le (h.lt x (List.mem_of_getElem? hx) k hk) hhi, fun i j x y hx hy hij => ?_, fun i x hx => h.len x (List.mem_of_getElem? hx)⟩
    · obtain ⟨b, e1, e2, e3⟩ := hc i x hx
      have hbl : b.block < w.heap.size := by have := World.block_lt_of_cell? w _ e2; rwa [block_add] at this
      refine ⟨b, e1, e2, hbl, fun j y hy e => ?_⟩
      have h1 := h.lt y (List.mem_of_getElem? hy) _ e
      have h2 := ((hP j y hy).at_base _ e).1
      omega
    · obtain ⟨hi', rfl⟩ := List.getElem?_eq_some_iff.1 hx
      obtain ⟨hj', rfl⟩ := List.getElem?_eq_some_iff.1 hy
      rcases Nat.lt_or_gt_of_ne hij with h1 | h1
      · exact List.pairwise_iff_getElem.1 h.apart i j hi' hj' h1
      · exact (List.pairwise_iff_getElem.1 h.apart j i hj' hi' h1).symm
  refine (apart_calls lo a hs P n c w HA hlo hn hl).mono fun e w' ⟨h1, _, h3⟩ => ⟨h1, h3.below hlo ?_⟩
  rintro k ⟨i, x, hx, hk⟩
  exact ((hP i x hx).at_base k hk).1
end Go.Proofs.Ytlcbjjgmkllceaa
