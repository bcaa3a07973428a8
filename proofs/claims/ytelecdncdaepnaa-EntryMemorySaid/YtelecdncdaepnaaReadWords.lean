/- Words on readers: what stands behind a pointer to one. -/
import Derived.Test.YtelecdncdaepnaaWireWalk
import Derived.Deep.QuietTactic
import Derived.BigQuiet
namespace Go.Proofs.Ytelecdncdaepnaa
open Go.RowKit

/-- a reader at the head of block b, over the bytes P, at the place at_, with the fault e -/
structure Rd (w : World) (base : Nat → Prop) (b : Nat) (P : List UInt8) (at_ e : Nat) : Prop where
  s : ∃ A c, w.cell? ⟨b, 0, none⟩ = some (.slice A P.length c) ∧ RB w A c P ∧ (∀ a, A = some a → 0 < P.length → a.block ≠ b ∧ base a.block)
  place : w.cell? ⟨b, 1, none⟩ = some (.int .i64 at_)
  fault : w.cell? ⟨b, 2, none⟩ = some (.int .i64 e)
  fz : ∀ j, w.frozen? ⟨b, j, none⟩ = false
  lo : base b
  le : at_ ≤ P.length
theorem Rd.bLt {w : World} {base : Nat → Prop} {b : Nat} {P : List UInt8} {at_ e : Nat} (h : Rd w base b P at_ e) : b < w.heap.size := World.block_lt_of_cell? w _ h.place
theorem Rd.keep {w w' : World} {base : Nat → Prop} {b : Nat} {P : List UInt8} {at_ e : Nat} (h : Rd w base b P at_ e) (hb : w'.heap[b]? = w.heap[b]?) (hk : ∀ k, base k → k ≠ b → k < w.heap.size → w'.heap[k]? = w.heap[k]?) : Rd w' base b P at_ e := by
  obtain ⟨A, c, c1, c2, c3⟩ := h.s
  have hc : ∀ j, w'.cell? ⟨b, j, none⟩ = w.cell? ⟨b, j, none⟩ := fun j => World.cell?_of_block (a := ⟨b, j, none⟩) hb
  refine ⟨⟨A, c, (hc 0).trans c1, c2.keep fun a e hp => hk _ (c3 a e hp).2 (c3 a e hp).1 (c2.old.out a e hp), c3⟩, (hc 1).trans h.place, (hc 2).trans h.fault, fun j => (World.frozen?_of_block (a := ⟨b, j, none⟩) hb).trans (h.fz j), h.lo, h.le⟩
theorem Rd.new {w w' : World} {base : Nat → Prop} {b : Nat} {P : List UInt8} {at_ e : Nat} (h : Rd w base b P at_ e) (hb : Below w.heap.size w w') : Rd w' base b P at_ e :=
  h.keep (hb.block b h.bLt) fun k _ _ h3 => hb.block k h3
theorem setCell_grown (w : World) (b j : Nat) (v : Value) : w.grownBy (w.setCell ⟨b, j, none⟩ v) (some b) :=
  ⟨rfl, rfl, rfl, by simp [World.setCell], fun k _ hk => heap_setCell_other _ _ _ _ (fun e => hk (by rw [e]))⟩
theorem grown_trans {a b c : World} {row : Option Nat} (h : a.grownBy b row) (k : b.grownBy c row) : a.grownBy c row :=
  ⟨k.os.trans h.os, k.tape.trans h.tape, k.output.trans h.output, Nat.le_trans h.size k.size, fun j h1 h2 => (k.block j (Nat.lt_of_lt_of_le h1 h.size) h2).trans (h.block j h1 h2)⟩
theorem grown_refl (a : World) (row : Option Nat) : a.grownBy a row := ⟨rfl, rfl, rfl, Nat.le_refl _, fun _ _ _ => rfl⟩
theorem grown_new {a b c : World} {row : Option Nat} (h : a.grownBy b row) (k : Below b.heap.size b c) : a.grownBy c row := grown_trans h (grown_of_below k row)
theorem Rd.setPlace {w : World} {base : Nat → Prop} {b : Nat} {P : List UInt8} {at_ e : Nat} (h : Rd w base b P at_ e) (n : Nat) (hn : n ≤ P.length) : Rd (w.setCell ⟨b, 1, none⟩ (.int .i64 n)) base b P n e := by
  obtain ⟨A, c, c1, c2, c3⟩ := h.s
  have hg := setCell_grown w b 1 (.int .i64 n)
  refine ⟨⟨A, c, ?_, c2.keep fun a e hp => hg.block _ (c2.old.out a e hp) (fun e2 => (c3 a e hp).1 (Option.some.inj e2)), c3⟩, World.cell?_setCell_same _ _ _ h.place, ?_, fun j => by rw [World.frozen?_setCell]; exact h.fz j, h.lo, hn⟩
  · exact (World.cell?_setCell_other _ _ _ _ (by simp)).trans c1
  · exact (World.cell?_setCell_other _ _ _ _ (by simp)).trans h.fault
theorem Rd.setFault {w : World} {base : Nat → Prop} {b : Nat} {P : List UInt8} {at_ e : Nat} (h : Rd w base b P at_ e) (n : Nat) : Rd (w.setCell ⟨b, 2, none⟩ (.int .i64 n)) base b P at_ n := by
  obtain ⟨A, c, c1, c2, c3⟩ := h.s
  have hg := setCell_grown w b 2 (.int .i64 n)
  refine ⟨⟨A, c, ?_, c2.keep fun a e hp => hg.block _ (c2.old.out a e hp) (fun e2 => (c3 a e hp).1 (Option.some.inj e2)), c3⟩, ?_, World.cell?_setCell_same _ _ _ h.fault, fun j => by rw [World.frozen?_setCell]; exact h.fz j, h.lo, h.le⟩
  · exact (World.cell?_setCell_other _ _ _ _ (by simp)).trans c1
  · exact (World.cell?_setCell_other _ _ _ _ (by simp)).trans h.place
/-- a new reader -/
theorem Rd.fresh (w : World) (base : Nat → Prop) (A : Option Addr) (c : Nat) (P : List UInt8) (t : TypeId) (hb : base w.heap.size) (hr : RB w A c P) (hlo : ∀ a, A = some a → 0 < P.length → base a.block) :
    Rd (w.alloc (.cells #[.slice A P.length c, .int .i64 0, .int .i64 0] t)) base w.heap.size P 0 0 := by
  have hh := heap_alloc_new w (.cells #[.slice A P.length c, .int .i64 0, .int .i64 0] t)
  refine ⟨⟨A, c, cell_of_row _ _ _ _ _ _ hh, hr.new ((Below.refl _ _).alloc (Nat.le_refl _) _), fun a e hp => ⟨?_, hlo a e hp⟩⟩, cell_of_row _ _ _ _ _ _ hh, cell_of_row _ _ _ _ _ _ hh, fun j => frozen_of_row _ _ _ _ _ hh, hb, Nat.zero_le _⟩
  have := hr.old.out a e hp
  omega
theorem OB.lo {w : World} {base e : Nat} {A : Option Addr} {n c : Nat} {p : List UInt8} (h : OB w base e (.slice A n c) p) : ∀ a, A = some a → 0 < p.length → base ≤ a.block := by
  intro a ha _
  subst ha
  exact (h.at_base a.block rfl).1

/-- where a part of a list begins -/
def cutA (A : Option Addr) (l c : Nat) : Option Addr := if c = l then A else A.map (·.add l)
theorem run_cut (w : World) (A : Option Addr) (n c : Nat) (L H : Int) (l h : Nat) (hL : L = l) (hH : H = h) (h1 : l ≤ h) (h2 : h ≤ c) :
    (Instr.slice 24 (.slice A n c) (some (.int .i64 L)) (some (.int .i64 H)) none).run Try.prog w = .ok (.slice (cutA A l c) (h - l) (c - l)) w := by
  subst hL
  subst hH
  have hs : (sizeOf (Try.prog.elem 24)).run Try.prog w = .ok 1 w := by kernel_rfl
  rw [run_slice_lh w 24 A n c (by kernel_rfl) .i64 .i64 l h (by omega) (by omega) (by omega), hs]
  simp [Result.andThen, sliced, cutA]
theorem run_cut_l (w : World) (A : Option Addr) (n c : Nat) (L : Int) (l : Nat) (hL : L = l) (h1 : l ≤ n) :
    (Instr.slice 24 (.slice A n c) (some (.int .i64 L)) none none).run Try.prog w = .ok (.slice (cutA A l c) (n - l) (c - l)) w := by
  subst hL
  have hs : (sizeOf (Try.prog.elem 24)).run Try.prog w = .ok 1 w := by kernel_rfl
  rw [run_slice_l w 24 A n c (by kernel_rfl) .i64 l (by omega) (by omega), hs]
  simp [Result.andThen, sliced, cutA]
theorem RB.cut {w : World} {A : Option Addr} {c : Nat} {p : List UInt8} (hr : RB w A c p) (l h : Nat) (h1 : l ≤ h) (h2 : h ≤ p.length) : RB w (cutA A l c) (c - l) ((p.drop l).take (h - l)) := by
  have hlen := hr.len
  have hcap := hr.cap
  refine ⟨fun hp => ?_, fun e => ?_, by simp; omega, by omega⟩
  · have hp' : l < h := by simp at hp; omega
    obtain ⟨a, rfl, hc⟩ := hr.out (by omega)
    refine ⟨a.add l, ?_, fun i hi => ?_⟩
    · unfold cutA; rw [if_neg (by omega)]; rfl
    · have hi' : l + i < p.length := by simp at hi; omega
      have := hc (l + i) hi'
      rw [List.getElem_take, List.getElem_drop]
      rw [show (a.add l).add i = a.add (l + i) by unfold Addr.add; split <;> split <;> split <;> simp_all <;> omega]
      exact this
  · unfold cutA at e
    split at e
    · obtain ⟨h3, rfl⟩ := hr.nil e
      exact ⟨by omega, by simp⟩
    · cases A with
      | none => obtain ⟨h3, rfl⟩ := hr.nil rfl; exact ⟨by omega, by simp⟩
      | some a => simp at e

/-- what NewReader makes: a reader on blocks of its own -/
structure Fresh (w w' : World) (F : Nat → Prop) : Prop where
  lo : ∀ k, F k → w.heap.size ≤ k
  hi : ∀ k, F k → k < w'.heap.size
theorem Rd.weaken {w : World} {F G : Nat → Prop} {b : Nat} {P : List UInt8} {at_ e : Nat} (h : Rd w F b P at_ e) (hg : ∀ k, F k → G k) : Rd w G b P at_ e := by
  obtain ⟨A, c, c1, c2, c3⟩ := h.s
  exact ⟨⟨A, c, c1, c2, fun a ha hp => ⟨(c3 a ha hp).1, hg _ (c3 a ha hp).2⟩⟩, h.place, h.fault, h.fz, hg _ h.lo, h.le⟩
theorem newReader_own (A : Option Addr) (p : List UInt8) (cap n : Nat) (w : World) (hp : RB w A cap p) (hn : n = p.length) (hl : p.length ≤ 140737488355328) :
    Calls Try.prog 58 #[.slice A n cap] w fun e w' => ∃ b F, e = .returned (.pointer (some ⟨b, 0, none⟩)) ∧ Rd w' F b p 0 0 ∧ Fresh w w' F ∧ Below w.heap.size w w' := by
  subst hn
  go_enter Try.func58, Try.ntmps58
  go_wp2_with (go_at_call 91; (with_reducible refine (clone_calls A p cap _ _ hp rfl hl).mono ?_); rintro e w2 ⟨A', c', rfl, hn⟩)
  go_ret
  have hs : (w2.alloc (.cells #[.slice A' p.length c', .int .i64 0, .int .i64 0] 132)).heap.size = w2.heap.size + 1 := Array.size_push ..
  refine ⟨_, fun k => k = w2.heap.size ∨ ∃ a, A' = some a ∧ 0 < p.length ∧ a.block = k, rfl, Rd.fresh _ _ A' c' p _ (.inl rfl) hn.own.reads (fun a ha hp => .inr ⟨a, ha, hp, rfl⟩), ⟨?_, ?_⟩, hn.below.alloc hn.below.size _⟩
  · rintro k (rfl | ⟨a, ha, hp, rfl⟩)
    · exact hn.below.size
    · exact hn.own.lo a ha hp
  · rintro k (rfl | ⟨a, ha, hp, rfl⟩)
    · rw [hs]; omega
    · have := hn.own.reads.old.out a ha hp
      rw [hs]; omega
theorem newReader_calls (A : Option Addr) (p : List UInt8) (cap n : Nat) (w : World) (hp : RB w A cap p) (hn : n = p.length) (hl : p.length ≤ 140737488355328) :
    Calls Try.prog 58 #[.slice A n cap] w fun e w' => ∃ b, e = .returned (.pointer (some ⟨b, 0, none⟩)) ∧ Rd w' (w.heap.size ≤ ·) b p 0 0 ∧ Below w.heap.size w w' :=
  (newReader_own A p cap n w hp hn hl).mono fun _ _ ⟨b, _, h1, h2, h3, h4⟩ => ⟨b, h1, h2.weaken h3.lo, h4⟩

theorem fail_calls (base : Nat → Prop) (b : Nat) (P : List UInt8) (at_ e0 : Nat) (e : Nat) (E : Int) (w : World) (hr : Rd w base b P at_ e0) (hE : E = e) :
    Calls Try.prog 94 #[.pointer (some ⟨b, 0, none⟩), .int .i64 E] w fun e' w' => e' = .returned (.slice none 0 0) ∧ Rd w' base b P at_ e ∧ w.grownBy w' (some b) := by
  subst hE
  have hc := hr.fault
  have hf := hr.fz 2
  have H := Lib.hid (hr.setFault e)
  go_enter Try.func94, Try.ntmps94
  go_wp2
  go_ret
  exact ⟨rfl, H.out, setCell_grown _ _ _ _⟩

theorem err_calls (base : Nat → Prop) (b : Nat) (P : List UInt8) (at_ e : Nat) (w : World) (hr : Rd w base b P at_ e) :
    Calls Try.prog 61 #[.pointer (some ⟨b, 0, none⟩)] w fun e' w' => e' = .returned (.int .i64 e) ∧ w = w' := by
  have hc := hr.fault
  go_enter Try.func61, Try.ntmps61
  go_wp2
  go_ret
  exact ⟨rfl, rfl⟩
def doneE (P : List UInt8) (at_ e : Nat) : Nat := if e ≠ 0 ∨ at_ = P.length then e else 3
theorem done_calls (base : Nat → Prop) (b : Nat) (P : List UInt8) (at_ e : Nat) (w : World) (hr : Rd w base b P at_ e) :
    Calls Try.prog 63 #[.pointer (some ⟨b, 0, none⟩)] w fun e' w' => e' = .returned (.int .i64 (doneE P at_ e)) ∧ Drawn w w' := by
  have hc := hr.place
  obtain ⟨A, c, c1, c2, c3⟩ := hr.s
  by_cases he : e = 0
  · subst he
    by_cases hd : at_ = P.length
    · have hb : ((at_ : Int) == (P.length : Int)) = true := by rw [hd]; simp
      have hfin : doneE P at_ 0 = 0 := by unfold doneE; rw [if_pos (.inr hd)]
      have HF := Lib.hid hfin
      clear hd hfin
      go_enter Try.func63, Try.ntmps63
      go_wp2_with (go_at_call 61; (with_reducible refine (err_calls base b P at_ 0 _ hr).mono ?_); rintro e w2 ⟨rfl, rfl⟩)
      go_quiet (fail)
      go_wp2
      go_ret
      exact ⟨ret_int (by rw [HF.out]; rfl), ⟨_, rfl⟩⟩
    · have hb : ((at_ : Int) == (P.length : Int)) = false := by rw [beq_eq_false_iff_ne]; omega
      have hfin : doneE P at_ 0 = 3 := by simp [doneE, hd]
      have HF := Lib.hid hfin
      clear hd hfin
      go_enter Try.func63, Try.ntmps63
      go_wp2_with (go_at_call 61; (with_reducible refine (err_calls base b P at_ 0 _ hr).mono ?_); rintro e w2 ⟨rfl, rfl⟩)
      go_quiet (fail)
      go_wp2
      go_ret
      exact ⟨ret_int (by rw [HF.out]; rfl), ⟨_, rfl⟩⟩
  · have hb : ((e : Int) != 0) = true := by rw [bne_iff_ne]; omega
    have hfin : doneE P at_ e = e := by simp [doneE, he]
    have HF := Lib.hid hfin
    clear he hfin
    go_enter Try.func63, Try.ntmps63
    go_wp2_with (go_at_call 61; (with_reducible refine (err_calls base b P at_ e _ hr).mono ?_); rintro e w2 ⟨rfl, rfl⟩)
    go_quiet (fail)
    go_wp2
    go_ret
    exact ⟨ret_int (by rw [HF.out]), ⟨_, rfl⟩⟩

/-- the next n bytes; nothing behind a fault or where there aren't so many -/
theorem take_fault (base : Nat → Prop) (b : Nat) (P : List UInt8) (at_ e : Nat) (n : Int) (w : World) (hr : Rd w base b P at_ e) (he : e ≠ 0) :
    Calls Try.prog 104 #[.pointer (some ⟨b, 0, none⟩), .int .i64 n] w fun e' w' => e' = .returned (.slice none 0 0) ∧ w = w' := by
  have hc := hr.fault
  have hb : ((e : Int) != 0) = true := by rw [bne_iff_ne]; omega
  clear he
  go_enter Try.func104, Try.ntmps104
  go_wp2
  go_ret
  exact ⟨rfl, rfl⟩
theorem take_short (base : Nat → Prop) (b : Nat) (P : List UInt8) (at_ : Nat) (n : Nat) (N : Int) (hN : N = n) (w : World) (hr : Rd w base b P at_ 0) (hn : P.length - at_ < n) (hl : P.length ≤ 9223372036854775807) :
    Calls Try.prog 104 #[.pointer (some ⟨b, 0, none⟩), .int .i64 N] w fun e' w' => e' = .returned (.slice none 0 0) ∧ Rd w' base b P at_ 3 ∧ w.grownBy w' (some b) := by
  subst hN
  have hc := hr.fault
  have hp := hr.place
  have hle := hr.le
  obtain ⟨A, c, c1, c2, c3⟩ := hr.s
  have h3 := Lib.hid (show (3 : Int) = ((3 : Nat) : Int) from rfl)
  go_enter Try.func104, Try.ntmps104
  have hw : IntKind.i64.wrap ((P.length : Int) - at_) = (P.length : Int) - at_ := IntWalk.i64_in _ (by omega)
  have hb : decide ((P.length : Int) - at_ < n) = true := by rw [decide_eq_true_eq]; omega
  go_wp2
  go_quiet (fail)
  clear hw
  go_wp2_with (go_at_call 94; (with_reducible refine (fail_calls base b P at_ 0 3 _ _ (hr.new (Drawn.below ⟨_, rfl⟩ _)) h3.out).mono ?_); rintro e w2 ⟨rfl, hr2, hg2⟩)
  go_ret
  exact ⟨rfl, hr2, grown_trans (grown_of_below (Drawn.below ⟨_, rfl⟩ _) _) hg2⟩
theorem take_ok (base : Nat → Prop) (b : Nat) (P : List UInt8) (at_ : Nat) (n : Nat) (N : Int) (hN : N = n) (w : World) (hr : Rd w base b P at_ 0) (hn : at_ + n ≤ P.length) (hl : P.length ≤ 9223372036854775807) :
    Calls Try.prog 104 #[.pointer (some ⟨b, 0, none⟩), .int .i64 N] w fun e' w' => ∃ A' c', e' = .returned (.slice A' n c') ∧ RB w' A' c' ((P.drop at_).take n) ∧ Rd w' base b P (at_ + n) 0 ∧ w.grownBy w' (some b) := by
  subst hN
  have hc := hr.fault
  have hp := hr.place
  have hf := hr.fz 1
  obtain ⟨A, c, c1, c2, c3⟩ := hr.s
  have hw : IntKind.i64.wrap ((P.length : Int) - at_) = (P.length : Int) - at_ := IntWalk.i64_in _ (by omega)
  have hb : decide ((P.length : Int) - at_ < n) = false := by rw [decide_eq_false_iff_not]; omega
  go_enter Try.func104, Try.ntmps104
  go_wp2
  go_quiet (fail)
  rename Nat => nq0
  clear hw hb
  go_wp2
  have hw : IntKind.i64.wrap ((at_ : Int) + n - n) = at_ := by rw [Int.add_sub_cancel]; exact IntWalk.i64_in _ (by omega)
  have hcap := c2.len
  have hsl := fun w' : World => run_cut w' A P.length c at_ ((at_ : Int) + n) at_ (at_ + n) rfl (by omega) (by omega) (by omega)
  rw [Nat.add_sub_cancel_left] at hsl
  have HR := Lib.hid (hr.new (Drawn.below (w' := w.drewN nq0) ⟨nq0, rfl⟩ _))
  go_quiet (fail)
  go_wp2
  go_ret
  have hB : Below w.heap.size w (w.drewN nq0) := Drawn.below ⟨nq0, rfl⟩ _
  have hS := HR.out.setPlace (at_ + n) hn
  have hD := Drawn.below (w := (w.drewN nq0).setCell ⟨b, 1, none⟩ (.int .i64 ((at_ + n : Nat) : Int))) (w' := ((w.drewN nq0).setCell ⟨b, 1, none⟩ (.int .i64 ((at_ + n : Nat) : Int))).drewN nq) ⟨nq, rfl⟩ ((w.drewN nq0).setCell ⟨b, 1, none⟩ (.int .i64 ((at_ + n : Nat) : Int))).heap.size
  have hG : w.grownBy (((w.drewN nq0).setCell ⟨b, 1, none⟩ (.int .i64 ((at_ + n : Nat) : Int))).drewN nq) (some b) := grown_new (grown_trans (grown_of_below hB _) (setCell_grown _ _ _ _)) hD
  have hC := c2.keep (w' := ((w.drewN nq0).setCell ⟨b, 1, none⟩ (.int .i64 ((at_ + n : Nat) : Int))).drewN nq) fun a e hp => hG.block _ (c2.old.out a e hp) (fun e2 => (c3 a e hp).1 (Option.some.inj e2))
  have hcut := hC.cut at_ (at_ + n) (by omega) hn
  rw [Nat.add_sub_cancel_left] at hcut
  exact ⟨_, _, rfl, hcut, hS.new hD, hG⟩

open WireMath (beN numS grpL grpTo)
theorem numS_lt (P : List UInt8) (at_ e n : Nat) : (numS P at_ e n).1 < 256 ^ n := by
  unfold WireMath.numS
  split
  · exact Nat.pow_pos (by decide)
  · split
    · exact Nat.pow_pos (by decide)
    · exact WireMath.beN_lt _ n (List.length_take_le _ _)
theorem bits_or_byte (v : Nat) (c : UInt8) (hv : v < 72057594037927936) : bits .or .u64 ((v : Int) * 256) (uB c) = ((v * 256 + c.toNat : Nat) : Int) := by
  have hc := c.toNat_lt
  have h := bits_join .u64 64 (by decide) (fun n h0 h1 => by rw [IntKind.wrap_u64]; omega) 8 ((v : Int) * 256) (uB c) (by omega) (by omega) (by omega) (uB_range c).1 (by have := uB_range c; omega) (by have := uB_range c; omega)
  rw [h]
  unfold uB
  simp

theorem number_calls (base : Nat → Prop) (b : Nat) (P : List UInt8) (at_ e n : Nat) (N : Int) (hN : N = n) (w : World) (hr : Rd w base b P at_ e) (hl : P.length ≤ 9223372036854775807) (hn : n ≤ 8) :
    Calls Try.prog 103 #[.pointer (some ⟨b, 0, none⟩), .int .i64 N] w fun e' w' => e' = .returned (.int .u64 (numS P at_ e n).1) ∧ Rd w' base b P (numS P at_ e n).2.1 (numS P at_ e n).2.2 ∧ w.grownBy w' (some b) := by
  subst hN
  unfold WireMath.numS
  by_cases he : e ≠ 0
  · rw [if_pos he]
    have HE := Lib.hid he
    clear he
    go_enter Try.func103, Try.ntmps103
    go_wp2_with (go_at_call 104; (with_reducible refine (take_fault base b P at_ e _ _ hr HE.out).mono ?_); rintro e2 w2 ⟨rfl, rfl⟩)
    refine wp_loop_rounds 1 ?_
    rw [rounds_succ]
    go_wp2
    go_ret
    exact ⟨rfl, hr, grown_refl _ _⟩
  · rw [if_neg he]
    obtain rfl : e = 0 := by omega
    clear he
    by_cases hs : P.length - at_ < n
    · rw [if_pos hs]
      have HS := Lib.hid hs
      clear hs
      go_enter Try.func103, Try.ntmps103
      go_wp2_with (go_at_call 104; (with_reducible refine (take_short base b P at_ n _ rfl _ hr HS.out hl).mono ?_); rintro e2 w2 ⟨rfl, hr2, hg2⟩)
      refine wp_loop_rounds 1 ?_
      rw [rounds_succ]
      go_wp2
      go_ret
      exact ⟨rfl, hr2, hg2⟩
    · rw [if_neg hs]
      have hok : at_ + n ≤ P.length := by have := hr.le; omega
      have HOK := Lib.hid hok
      clear hs hok
      go_enter Try.func103, Try.ntmps103
      go_wp2_with (go_at_call 104; (with_reducible refine (take_ok base b P at_ n _ rfl _ hr HOK.out hl).mono ?_); rintro e2 w2 ⟨A', c', rfl, hb2, hr2, hg2⟩)
      have hql : ((P.drop at_).take n).length = n := by have := HOK.out; simp; omega
      generalize hq : (P.drop at_).take n = q at hb2 hql
      have HQ := Lib.hid hq
      have HQL := Lib.hid hql
      clear hq hql
      go_loop [5, 12] (fun v i => ∃ k : Nat, k ≤ n ∧ i = .int .i64 k ∧ v = .int .u64 (beN (q.take k))) (fun _ i => n - (intOf i).toNat)
      case atStart => exact ⟨0, by omega, rfl, rfl⟩
      case round =>
        obtain ⟨k, hk, rfl, rfl⟩ := hrel
        by_cases hlt : k < n
        · have hkq : k < q.length := by rw [HQL.out]; exact hlt
          obtain ⟨a, rfl, hc⟩ := hb2.at_ k hkq
          have hq8 := WireMath.beN_lt (q.take k) 7 (by have := HQL.out; simp; omega)
          have hsn : beN (q.take (k + 1)) = beN (q.take k) * 256 + q[k].toNat := by
            rw [List.take_succ_eq_append_getElem hkq, WireMath.beN_snoc]
          have hor := bits_or_byte (beN (q.take k)) q[k] (by simpa using hq8)
          have hbr := uB_range q[k]
          have hq9 : (beN (q.take k) : Int) ≤ 72057594037927935 := by simp at hq8; omega
          have HSN := Lib.hid hsn
          clear hq8 hsn
          generalize beN (q.take k) = bv at *
          go_wp2
          go_round
          case rel => exact ⟨k + 1, by omega, (by first | rfl | go_num), by rw [HSN.out]; congr 1⟩
          case measure => simp [intOf] <;> omega
        · have hkn : k = n := by omega
          have HKN := Lib.hid hkn
          clear hkn
          go_wp2
          go_ret
          exact ⟨ret_int (by rw [HKN.out, HQ.out, List.take_of_length_le (by rw [HQL.out]; omega)]), hr2, hg2⟩

theorem ru8_calls (base : Nat → Prop) (b : Nat) (P : List UInt8) (at_ e : Nat) (w : World) (hr : Rd w base b P at_ e) (hl : P.length ≤ 9223372036854775807) :
    Calls Try.prog 95 #[.pointer (some ⟨b, 0, none⟩)] w fun e' w' => e' = .returned (.int .u8 (numS P at_ e 1).1) ∧ Rd w' base b P (numS P at_ e 1).2.1 (numS P at_ e 1).2.2 ∧ w.grownBy w' (some b) := by
  have hlt := numS_lt P at_ e 1
  have hN := Lib.hid (show (1 : Int) = ((1 : Nat) : Int) from rfl)
  generalize hr0 : numS P at_ e 1 = r at hlt
  have hri : ((r.1 : Nat) : Int) ≤ 255 := by simp at hlt; omega
  have HR := Lib.hid hr0
  clear hr0 hlt
  go_enter Try.func95, Try.ntmps95
  go_wp2_with (go_at_call 103; (with_reducible refine (number_calls base b P at_ e 1 _ hN.out _ hr hl (by omega)).mono ?_); rw [HR.out]; rintro e2 w2 ⟨rfl, hr2, hg2⟩)
  go_ret
  exact ⟨rfl, hr2, hg2⟩

theorem ru64_calls (base : Nat → Prop) (b : Nat) (P : List UInt8) (at_ e : Nat) (w : World) (hr : Rd w base b P at_ e) (hl : P.length ≤ 9223372036854775807) :
    Calls Try.prog 83 #[.pointer (some ⟨b, 0, none⟩)] w fun e' w' => e' = .returned (.int .u64 (numS P at_ e 8).1) ∧ Rd w' base b P (numS P at_ e 8).2.1 (numS P at_ e 8).2.2 ∧ w.grownBy w' (some b) := by
  have hN := Lib.hid (show (8 : Int) = ((8 : Nat) : Int) from rfl)
  go_enter Try.func83, Try.ntmps83
  go_wp2_with (go_at_call 103; (with_reducible refine (number_calls base b P at_ e 8 _ hN.out _ hr hl (by omega)).mono ?_); rintro e2 w2 ⟨rfl, hr2, hg2⟩)
  go_ret
  exact ⟨rfl, hr2, hg2⟩
end Go.Proofs.Ytelecdncdaepnaa
