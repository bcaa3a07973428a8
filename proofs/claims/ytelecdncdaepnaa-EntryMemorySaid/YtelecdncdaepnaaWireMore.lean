/- More on writers and readers: contracts with free numbers; two writers. -/
import Derived.Test.YtelecdncdaepnaaReadWalk2
namespace Go.Proofs.Ytelecdncdaepnaa
open Go.RowKit
open WireMath (beN numS grpL grpTo uvarS rawS blobS uvarL wideL)

theorem uvarN (base b : Nat) (row : Option Nat) (p q : List UInt8) (v : Nat) (V : Int) (hV : V = v) (hq : p ++ uvarL v = q) (w : World) (hw : Wr w base b row p) (hv : v ≤ 18446744073709551615) (hl : p.length + 10 ≤ 140737488355328) :
    Calls Try.prog 48 #[.pointer (some ⟨b, 0, none⟩), .int .u64 V] w fun e w' => ∃ row', e = .returned (.tuple #[]) ∧ Wr w' base b row' q ∧ WStep w w' b row row' := by
  subst hV; subst hq; exact uvar_calls base b row p v w hw hv hl
theorem bytesN (base b : Nat) (row : Option Nat) (p : List UInt8) (n : Nat) (hn : n = p.length) (w : World) (hw : Wr w base b row p) (hl : p.length ≤ 140737488355328) :
    Calls Try.prog 50 #[.pointer (some ⟨b, 0, none⟩)] w fun e w' => ∃ A' c', e = .returned (.slice A' n c') ∧ NewB w w' (.slice A' n c') p := by
  subst hn; exact bytes_calls base b row p w hw hl
theorem ruvarN (base : Nat → Prop) (b : Nat) (P : List UInt8) (at_ e : Nat) (v : Int) (a2 e2 : Nat) (hv : v = (uvarS P at_ e).1) (ha : (uvarS P at_ e).2.1 = a2) (he : (uvarS P at_ e).2.2 = e2) (w : World) (hr : Rd w base b P at_ e) (hl : P.length ≤ 9223372036854775807) :
    Calls Try.prog 59 #[.pointer (some ⟨b, 0, none⟩)] w fun e' w' => e' = .returned (.int .u64 v) ∧ Rd w' base b P a2 e2 ∧ w.grownBy w' (some b) := by
  subst hv; subst ha; subst he; exact ruvar_calls base b P at_ e w hr hl
theorem ru8N (base : Nat → Prop) (b : Nat) (P : List UInt8) (at_ e : Nat) (v : Int) (a2 e2 : Nat) (hv : v = (numS P at_ e 1).1) (ha : (numS P at_ e 1).2.1 = a2) (he : (numS P at_ e 1).2.2 = e2) (w : World) (hr : Rd w base b P at_ e) (hl : P.length ≤ 9223372036854775807) :
    Calls Try.prog 95 #[.pointer (some ⟨b, 0, none⟩)] w fun e' w' => e' = .returned (.int .u8 v) ∧ Rd w' base b P a2 e2 ∧ w.grownBy w' (some b) := by
  subst hv; subst ha; subst he; exact ru8_calls base b P at_ e w hr hl
theorem errN (base : Nat → Prop) (b : Nat) (P : List UInt8) (at_ e : Nat) (n : Int) (hn : n = e) (w : World) (hr : Rd w base b P at_ e) :
    Calls Try.prog 61 #[.pointer (some ⟨b, 0, none⟩)] w fun e' w' => e' = .returned (.int .i64 n) ∧ w = w' := by
  subst hn; exact err_calls base b P at_ e w hr
theorem doneN (base : Nat → Prop) (b : Nat) (P : List UInt8) (at_ e : Nat) (n : Int) (hn : n = doneE P at_ e) (w : World) (hr : Rd w base b P at_ e) :
    Calls Try.prog 63 #[.pointer (some ⟨b, 0, none⟩)] w fun e' w' => e' = .returned (.int .i64 n) ∧ Drawn w w' := by
  subst hn; exact done_calls base b P at_ e w hr

theorem OB.rb {w : World} {base e n c : Nat} {A : Option Addr} {p : List UInt8} (h : OB w base e (.slice A n c) p) : RB w A c p := by
  obtain ⟨A', c', e', hr⟩ := h.form
  injection e' with e1 e2 e3; subst e1; subst e3; exact hr
theorem RB.alloc {w : World} {A : Option Addr} {c : Nat} {p : List UInt8} (h : RB w A c p) (o : Obj) : RB (w.alloc o) A c p := h.new (below_alloc1 (Below.refl _ _) (Nat.le_refl _) o)

theorem below_then {w0 w w' : World} (h : Below w0.heap.size w0 w) (k : Below w.heap.size w w') : Below w0.heap.size w0 w' := h.trans (k.mono h.size)
theorem below_reader {w0 w w' : World} {b : Nat} (h : Below w0.heap.size w0 w) (hg : w.grownBy w' (some b)) (hb : w0.heap.size ≤ b) : Below w0.heap.size w0 w' := h.grown hg h.size fun k e => by cases e; exact hb
theorem below_writer {w0 w w' : World} {b : Nat} {r r' : Option Nat} {p : List UInt8} (h : Below w0.heap.size w0 w) (hs : WStep w w' b r r') (hw : Wr w w0.heap.size b r p) : Below w0.heap.size w0 w' := h.trans (hs.below hw)

theorem u8N (base b : Nat) (row : Option Nat) (p q : List UInt8) (v : Nat) (V : Int) (hV : V = v) (hq : p ++ [UInt8.ofNat v] = q) (w : World) (hw : Wr w base b row p) (hv : v ≤ 255) (hl : p.length + 8 ≤ 140737488355328) :
    Calls Try.prog 89 #[.pointer (some ⟨b, 0, none⟩), .int .u8 V] w fun e w' => ∃ row', e = .returned (.tuple #[]) ∧ Wr w' base b row' q ∧ WStep w w' b row row' := by
  subst hV; subst hq; exact u8_calls base b row p v w hw hv hl
theorem u64N (base b : Nat) (row : Option Nat) (p q : List UInt8) (v : Nat) (V : Int) (hV : V = v) (hq : p ++ wideL v 8 = q) (w : World) (hw : Wr w base b row p) (hv : v ≤ 18446744073709551615) (hl : p.length + 8 ≤ 140737488355328) :
    Calls Try.prog 78 #[.pointer (some ⟨b, 0, none⟩), .int .u64 V] w fun e w' => ∃ row', e = .returned (.tuple #[]) ∧ Wr w' base b row' q ∧ WStep w w' b row row' := by
  subst hV; subst hq; exact u64_calls base b row p v w hw hv hl
theorem rawN (base b : Nat) (row : Option Nat) (p : List UInt8) (A : Option Addr) (q r : List UInt8) (n c : Nat) (hr : p ++ q = r) (w : World) (hw : Wr w base b row p) (hq : RB w A c q) (hn : n = q.length) (hl : p.length + q.length ≤ 140737488355328) :
    Calls Try.prog 79 #[.pointer (some ⟨b, 0, none⟩), .slice A n c] w fun e w' => ∃ row', e = .returned (.tuple #[]) ∧ Wr w' base b row' r ∧ WStep w w' b row row' := by
  subst hr; exact raw_calls base b row p A q n c w hw hq hn hl

/-- two writers that share nothing -/
structure Two (w : World) (base b1 b2 : Nat) (r1 r2 : Option Nat) (p q : List UInt8) : Prop where
  one : Wr w base b1 r1 p
  two : Wr w base b2 r2 q
  ne : b1 ≠ b2
  x1 : r1 ≠ some b2
  x2 : r2 ≠ some b1
  xr : r2 = none ∨ r2 ≠ r1
theorem Two.swap {w : World} {base b1 b2 : Nat} {r1 r2 : Option Nat} {p q : List UInt8} (h : Two w base b1 b2 r1 r2 p q) : Two w base b2 b1 r2 r1 q p :=
  ⟨h.two, h.one, h.ne.symm, h.x2, h.x1, by
    rcases h.xr with e | e
    · cases r1 with
      | none => exact .inl rfl
      | some k => exact .inr (by rw [e]; simp)
    · exact .inr e.symm⟩
theorem Two.first {w w' : World} {base b1 b2 : Nat} {r1 r2 r1' : Option Nat} {p q p' : List UInt8} (h : Two w base b1 b2 r1 r2 p q) (hw : Wr w' base b1 r1' p') (hs : WStep w w' b1 r1 r1') : Two w' base b1 b2 r1' r2 p' q := by
  refine ⟨hw, h.two.other hs h.ne.symm h.x1 h.x2 h.xr, h.ne, ?_, h.x2, ?_⟩
  · rcases hs.row' with e | ⟨k, e, hk⟩
    · rw [e]; exact h.x1
    · rw [e]
      have := h.two.bLt
      intro e2
      have := Option.some.inj e2
      omega
  · rcases hs.row' with e | ⟨k, e, hk⟩
    · rw [e]; exact h.xr
    · rw [e]
      by_cases hn : r2 = none
      · exact .inl hn
      · refine .inr fun e2 => ?_
        have := (h.two.rowLo k e2).2
        omega
theorem Two.second {w w' : World} {base b1 b2 : Nat} {r1 r2 r2' : Option Nat} {p q q' : List UInt8} (h : Two w base b1 b2 r1 r2 p q) (hw : Wr w' base b2 r2' q') (hs : WStep w w' b2 r2 r2') : Two w' base b1 b2 r1 r2' p q' := (h.swap.first hw hs).swap
theorem Two.new {w w' : World} {base b1 b2 : Nat} {r1 r2 : Option Nat} {p q : List UInt8} (h : Two w base b1 b2 r1 r2 p q) (hb : Below w.heap.size w w') : Two w' base b1 b2 r1 r2 p q := ⟨h.one.new hb, h.two.new hb, h.ne, h.x1, h.x2, h.xr⟩
theorem Two.fresh (w : World) (t : TypeId) (k : Nat) (hk : w.heap.size = k) : Two ((w.alloc (.cells #[.slice none 0 0] t)).alloc (.cells #[.slice none 0 0] t)) k k (k + 1) none none [] [] := by
  subst hk
  have hs : (w.alloc (.cells #[.slice none 0 0] t)).heap.size = w.heap.size + 1 := Array.size_push ..
  have h2 := Wr.fresh (w.alloc (.cells #[.slice none 0 0] t)) w.heap.size (by omega) t
  rw [hs] at h2
  exact ⟨(Wr.fresh w _ (Nat.le_refl _) t).new (below_alloc1 (Below.refl _ _) (Nat.le_refl _) _), h2, by omega, by simp, by simp, .inl rfl⟩
end Go.Proofs.Ytelecdncdaepnaa
