/- The walk of entry.take: an entry off a reader. -/
import Derived.Test.YtelecdncdaepnaaRefuse
namespace Go.Proofs.Ytelecdncdaepnaa
open Go.RowKit
open WireMath (numS beN rawS blobS uvarS grpL uvarL wideL)

/-- two values that do not stand in one block -/
def sepV (u v : Value) : Prop := u.ownBlock = none ∨ u.ownBlock ≠ v.ownBlock
theorem sepV.of_lt {u v : Value} {m : Nat} (h : ∀ k, u.ownBlock = some k → k < m) (g : ∀ k, v.ownBlock = some k → m ≤ k) : sepV u v := by
  by_cases hu : u.ownBlock = none
  · exact .inl hu
  · refine .inr fun e => ?_
    obtain ⟨k, hk⟩ := Option.ne_none_iff_exists'.1 hu
    have h1 := h k hk
    have h2 := g k (e.symm.trans hk)
    omega
/-- an entry taken off: the fault, the entry, the place behind it -/
structure Ent where
  e : Nat
  v : En
  at_ : Nat
def entNo (e : Nat) : Ent := ⟨e, ⟨0, [], []⟩, 0⟩
def entS (P : List UInt8) (at_ : Nat) : Ent :=
  if (numS P at_ 0 1).2.2 ≠ 0 then entNo (numS P at_ 0 1).2.2
  else if (numS P at_ 0 1).1 ≠ 1 ∧ (numS P at_ 0 1).1 ≠ 2 then entNo 3
  else if (blobS P (numS P at_ 0 1).2.1 0 64).2.2 ≠ 0 then entNo (blobS P (numS P at_ 0 1).2.1 0 64).2.2
  else if (numS P at_ 0 1).1 = 1 then
    if (blobS P (blobS P (numS P at_ 0 1).2.1 0 64).2.1 0 256).2.2 ≠ 0 then entNo (blobS P (blobS P (numS P at_ 0 1).2.1 0 64).2.1 0 256).2.2
    else ⟨0, ⟨1, (blobS P (numS P at_ 0 1).2.1 0 64).1, (blobS P (blobS P (numS P at_ 0 1).2.1 0 64).2.1 0 256).1⟩, (blobS P (blobS P (numS P at_ 0 1).2.1 0 64).2.1 0 256).2.1⟩
  else ⟨0, ⟨2, (blobS P (numS P at_ 0 1).2.1 0 64).1, []⟩, (blobS P (numS P at_ 0 1).2.1 0 64).2.1⟩
theorem Trio.keepG {w w' : World} {b c : Nat} {x y z : Value} (h : Trio w b x y z) (hg : w.grownBy w' (some c)) (hb : b ≠ c) : Trio w' b x y z := h.keep (hg.block b h.lt (fun e => hb (Option.some.inj e)))
theorem Trio.set0 {w : World} {b : Nat} {x y z : Value} (h : Trio w b x y z) (u : Value) : Trio (w.setCell ⟨b, 0, none⟩ u) b u y z :=
  ⟨World.cell?_setCell_same _ _ _ h.c0, (World.cell?_setCell_other _ _ _ _ (by simp)).trans h.c1, (World.cell?_setCell_other _ _ _ _ (by simp)).trans h.c2, fun j => by rw [World.frozen?_setCell]; exact h.fz j⟩
theorem Trio.set1 {w : World} {b : Nat} {x y z : Value} (h : Trio w b x y z) (u : Value) : Trio (w.setCell ⟨b, 1, none⟩ u) b x u z :=
  ⟨(World.cell?_setCell_other _ _ _ _ (by simp)).trans h.c0, World.cell?_setCell_same _ _ _ h.c1, (World.cell?_setCell_other _ _ _ _ (by simp)).trans h.c2, fun j => by rw [World.frozen?_setCell]; exact h.fz j⟩
theorem Trio.set2 {w : World} {b : Nat} {x y z : Value} (h : Trio w b x y z) (u : Value) : Trio (w.setCell ⟨b, 2, none⟩ u) b x y u :=
  ⟨(World.cell?_setCell_other _ _ _ _ (by simp)).trans h.c0, (World.cell?_setCell_other _ _ _ _ (by simp)).trans h.c1, World.cell?_setCell_same _ _ _ h.c2, fun j => by rw [World.frozen?_setCell]; exact h.fz j⟩
theorem rblobN (F : Nat → Prop) (b : Nat) (P : List UInt8) (at_ e : Nat) (n : Int) (w : World) (N : Nat) (hr : Rd w F b P at_ e) (hl : P.length ≤ 140737488355328) (hn : n ≤ 9223372036854775807) (q : List UInt8) (a2 e2 : Nat) (hq : WireMath.blobS P at_ e n = (q, a2, e2)) (hN : N = q.length) :
    Calls Try.prog 96 #[.pointer (some ⟨b, 0, none⟩), .int .i64 n] w fun e' w' => ∃ A' c', e' = .returned (.slice A' N c') ∧ Got w w' F b P (.slice A' N c') (q, a2, e2) := by
  subst hN
  have := rblob_calls F b P at_ e n w hr hl hn
  rw [hq] at this
  exact this
theorem setCell_step (w : World) (g j : Nat) (v : Value) : Step w (w.setCell ⟨g, j, none⟩ v) (· = g) (· = g) := Step.of_grown (setCell_grown w g j v) rfl
theorem Rd.setBox {w : World} {F : Nat → Prop} {b g j : Nat} {P : List UInt8} {at_ e : Nat} {v : Value} (h : Rd w F b P at_ e) (hg : ¬ F g) : Rd (w.setCell ⟨g, j, none⟩ v) F b P at_ e :=
  h.step (setCell_step w g j v) (fun k hk e9 => hg (by have e9 : k = g := e9; rw [← e9]; exact hk))
/-- what take leaves of the world -/
structure TkW (w w' : World) (F : Nat → Prop) : Prop where
  step : Step w w' F F
theorem TkW.box {w w1 : World} {F : Nat → Prop} {g j : Nat} {v : Value} (h : TkW w w1 F) (hg : w.heap.size ≤ g) : TkW w (w1.setCell ⟨g, j, none⟩ v) F :=
  ⟨⟨h.step.os, h.step.tape, h.step.output, by simpa [World.setCell] using h.step.size, fun k hk hf => (heap_setCell_other _ _ _ _ (by show k ≠ g; omega)).trans (h.step.block k hk hf), h.step.foot⟩⟩
theorem TkW.grown {w w1 w2 : World} {F : Nat → Prop} {b : Nat} (h : TkW w w1 F) (hg : w1.grownBy w2 (some b)) (hb : F b) : TkW w w2 F := ⟨h.step.trans (Step.of_grown hg hb)⟩

section
variable (F : Nat → Prop) (b : Nat) (P : List UInt8) (at_ : Nat) (w : World)
set_option maxHeartbeats 400000 in
set_option maxRecDepth 100000 in
theorem take_n1 (hr : Rd w F b P at_ 0) (hF : ∀ k, F k → k < w.heap.size) (hl : P.length ≤ 140737488355328) (kv a1 e1 : Nat) (hn : numS P at_ 0 1 = (kv, a1, e1)) (he : e1 ≠ 0) :
    Calls Try.prog 62 #[.pointer (some ⟨b, 0, none⟩)] w fun r w' => r = .panicked [{ v := refV e1, recovered := false }] ∧ TkW w w' F := by
  have HB := Lib.hid (belowA (below_alloc1 (Below.refl w.heap.size w) (Nat.le_refl _) (.cells #[.int .u8 0, .slice none 0 0, .slice none 0 0] 26)) (.cells #[.int .u8 0, .slice none 0 0, .slice none 0 0] 26))
  have HT := Lib.hid (Trio.fresh (w.alloc (.cells #[.int .u8 0, .slice none 0 0, .slice none 0 0] 26)) (w.heap.size + 1) (asz _ _) (.int .u8 0) (.slice none 0 0) (.slice none 0 0) 26)
  have HR := Lib.hid ((Trio.fresh w w.heap.size rfl (.int .u8 0) (.slice none 0 0) (.slice none 0 0) 26).new (below_alloc1 (Below.refl _ _) (Nat.le_refl _) (.cells #[.int .u8 0, .slice none 0 0, .slice none 0 0] 26)))
  have HRd := Lib.hid (hr.new HB.out)
  have HFb := Lib.hid hr.lo
  have HW := Lib.hid (TkW.mk (Step.of_below HB.out F))
  have hbl := hr.bLt
  have HN1 : Hid (¬ F (w.heap.size + 1)) := Lib.hid (fun e9 => by have := hF _ e9; omega)
  have HN0 : Hid (¬ F w.heap.size) := Lib.hid (fun e9 => by have := hF _ e9; omega)
  have hl2 : P.length ≤ 9223372036854775807 := by omega
  have H64 : (64 : Int) ≤ 9223372036854775807 := by decide
  have H256 : (256 : Int) ≤ 9223372036854775807 := by decide
  have h0 := Lib.hid (show (0 : Int) = ((0 : Nat) : Int) from rfl)
  have HV1 := Lib.hid (show (kv : Int) = ((numS P at_ 0 1).1 : Nat) by simp [hn])
  have HV2 := Lib.hid (show (numS P at_ 0 1).2.1 = a1 by rw [hn])
  have HV3 := Lib.hid (show (numS P at_ 0 1).2.2 = e1 by rw [hn])
  clear hn
  have HE : Hid ((e1 : Int) ≠ 0) := Lib.hid (by omega)
  clear he
  go_enter Try.func62, Try.ntmps62
  go_wp2_with (first
    | (go_at_call 95; go_loud (with_reducible refine (ru8N F b P at_ 0 kv a1 e1 HV1.out HV2.out HV3.out _ HRd.out hl2).mono ?_); rintro r1 w1 ⟨rfl, hr1, hg1⟩; have T1 := HT.out.keepG hg1 (by omega); have R1 := HR.out.keepG hg1 (by omega); have hz1 := T1.lt; have d0 := T1.c0; have d1 := T1.c1; have d2 := T1.c2; have f0 := T1.fz 0; have f1 := T1.fz 1; have f2 := T1.fz 2; have S1 := Lib.hid (T1.set0 (.int .u8 kv)); have g0 := S1.out.c0; have g1 := S1.out.c1; have g2 := S1.out.c2; have RR1 := Lib.hid (R1.keep (w' := w1.setCell ⟨w.heap.size + 1, 0, none⟩ (.int .u8 kv)) ((setCell_grown w1 (w.heap.size + 1) 0 (.int .u8 kv)).block _ R1.lt (fun e9 => by have := Option.some.inj e9; omega))); have q1 := Lib.hid (hr1.setBox (g := w.heap.size + 1) (j := 0) (v := .int .u8 kv) HN1.out); have W1 := Lib.hid ((HW.out.grown hg1 HFb.out).box (g := w.heap.size + 1) (j := 0) (v := .int .u8 kv) (by omega)); have tk1 := trivial)
    | (go_at_call 61; (have tk := tk1); clear tk1 tk; (with_reducible refine (errN F b P a1 e1 e1 rfl _ q1.out).mono ?_); rintro r2 w2 ⟨rfl, rfl⟩)
    | (go_at_call 60; (with_reducible refine (refuse_no e1 HE.out _).mono ?_); rintro r2 w2 ⟨rfl, rfl⟩))
  exact ⟨rfl, rfl, W1.out⟩
set_option maxHeartbeats 400000 in
set_option maxRecDepth 100000 in
theorem take_n2 (hr : Rd w F b P at_ 0) (hF : ∀ k, F k → k < w.heap.size) (hl : P.length ≤ 140737488355328) (kv a1 : Nat) (hn : numS P at_ 0 1 = (kv, a1, 0)) (h1 : kv ≠ 1) (h2 : kv ≠ 2) :
    Calls Try.prog 62 #[.pointer (some ⟨b, 0, none⟩)] w fun r w' => r = .panicked [{ v := refV 3, recovered := false }] ∧ TkW w w' F := by
  have HB := Lib.hid (belowA (below_alloc1 (Below.refl w.heap.size w) (Nat.le_refl _) (.cells #[.int .u8 0, .slice none 0 0, .slice none 0 0] 26)) (.cells #[.int .u8 0, .slice none 0 0, .slice none 0 0] 26))
  have HT := Lib.hid (Trio.fresh (w.alloc (.cells #[.int .u8 0, .slice none 0 0, .slice none 0 0] 26)) (w.heap.size + 1) (asz _ _) (.int .u8 0) (.slice none 0 0) (.slice none 0 0) 26)
  have HR := Lib.hid ((Trio.fresh w w.heap.size rfl (.int .u8 0) (.slice none 0 0) (.slice none 0 0) 26).new (below_alloc1 (Below.refl _ _) (Nat.le_refl _) (.cells #[.int .u8 0, .slice none 0 0, .slice none 0 0] 26)))
  have HRd := Lib.hid (hr.new HB.out)
  have HFb := Lib.hid hr.lo
  have HW := Lib.hid (TkW.mk (Step.of_below HB.out F))
  have hbl := hr.bLt
  have HN1 : Hid (¬ F (w.heap.size + 1)) := Lib.hid (fun e9 => by have := hF _ e9; omega)
  have HN0 : Hid (¬ F w.heap.size) := Lib.hid (fun e9 => by have := hF _ e9; omega)
  have hl2 : P.length ≤ 9223372036854775807 := by omega
  have H64 : (64 : Int) ≤ 9223372036854775807 := by decide
  have H256 : (256 : Int) ≤ 9223372036854775807 := by decide
  have h0 := Lib.hid (show (0 : Int) = ((0 : Nat) : Int) from rfl)
  have HV1 := Lib.hid (show (kv : Int) = ((numS P at_ 0 1).1 : Nat) by simp [hn])
  have HV2 := Lib.hid (show (numS P at_ 0 1).2.1 = a1 by rw [hn])
  have HV3 := Lib.hid (show (numS P at_ 0 1).2.2 = 0 by rw [hn])
  clear hn
  have HE : Hid ((3 : Int) ≠ 0) := Lib.hid (by decide)
  have hb1 : ((kv : Int) != 1) = true := by rw [bne_iff_ne]; omega
  have hb2 : ((kv : Int) != 2) = true := by rw [bne_iff_ne]; omega
  clear h1 h2
  go_enter Try.func62, Try.ntmps62
  go_wp2_with (first
    | (go_at_call 95; go_loud (with_reducible refine (ru8N F b P at_ 0 kv a1 0 HV1.out HV2.out HV3.out _ HRd.out hl2).mono ?_); rintro r1 w1 ⟨rfl, hr1, hg1⟩; have T1 := HT.out.keepG hg1 (by omega); have R1 := HR.out.keepG hg1 (by omega); have hz1 := T1.lt; have d0 := T1.c0; have d1 := T1.c1; have d2 := T1.c2; have f0 := T1.fz 0; have f1 := T1.fz 1; have f2 := T1.fz 2; have S1 := Lib.hid (T1.set0 (.int .u8 kv)); have g0 := S1.out.c0; have g1 := S1.out.c1; have g2 := S1.out.c2; have RR1 := Lib.hid (R1.keep (w' := w1.setCell ⟨w.heap.size + 1, 0, none⟩ (.int .u8 kv)) ((setCell_grown w1 (w.heap.size + 1) 0 (.int .u8 kv)).block _ R1.lt (fun e9 => by have := Option.some.inj e9; omega))); have q1 := Lib.hid (hr1.setBox (g := w.heap.size + 1) (j := 0) (v := .int .u8 kv) HN1.out); have W1 := Lib.hid ((HW.out.grown hg1 HFb.out).box (g := w.heap.size + 1) (j := 0) (v := .int .u8 kv) (by omega)); have tk1 := trivial)
    | (go_at_call 61; (have tk := tk1); clear tk1 tk; (with_reducible refine (errN F b P a1 0 0 h0.out _ q1.out).mono ?_); rintro r2 w2 ⟨rfl, rfl⟩)
    | (go_at_call 60; (with_reducible refine (refuse_ok _).mono ?_); rintro r2 w2 ⟨rfl, rfl⟩)
    | (go_at_call 60; (with_reducible refine (refuse_no 3 HE.out _).mono ?_); rintro r2 w2 ⟨rfl, rfl⟩))
  exact ⟨rfl, rfl, W1.out⟩
set_option maxHeartbeats 400000 in
set_option maxRecDepth 100000 in
theorem take_n3a (hr : Rd w F b P at_ 0) (hF : ∀ k, F k → k < w.heap.size) (hl : P.length ≤ 140737488355328) (K : List UInt8) (a1 a2 e2 : Nat) (hn : numS P at_ 0 1 = (1, a1, 0)) (hk : blobS P a1 0 64 = (K, a2, e2)) (he : e2 ≠ 0) :
    Calls Try.prog 62 #[.pointer (some ⟨b, 0, none⟩)] w fun r w' => r = .panicked [{ v := refV e2, recovered := false }] ∧ TkW w w' F := by
  have HB := Lib.hid (belowA (below_alloc1 (Below.refl w.heap.size w) (Nat.le_refl _) (.cells #[.int .u8 0, .slice none 0 0, .slice none 0 0] 26)) (.cells #[.int .u8 0, .slice none 0 0, .slice none 0 0] 26))
  have HT := Lib.hid (Trio.fresh (w.alloc (.cells #[.int .u8 0, .slice none 0 0, .slice none 0 0] 26)) (w.heap.size + 1) (asz _ _) (.int .u8 0) (.slice none 0 0) (.slice none 0 0) 26)
  have HR := Lib.hid ((Trio.fresh w w.heap.size rfl (.int .u8 0) (.slice none 0 0) (.slice none 0 0) 26).new (below_alloc1 (Below.refl _ _) (Nat.le_refl _) (.cells #[.int .u8 0, .slice none 0 0, .slice none 0 0] 26)))
  have HRd := Lib.hid (hr.new HB.out)
  have HFb := Lib.hid hr.lo
  have HW := Lib.hid (TkW.mk (Step.of_below HB.out F))
  have hbl := hr.bLt
  have HN1 : Hid (¬ F (w.heap.size + 1)) := Lib.hid (fun e9 => by have := hF _ e9; omega)
  have HN0 : Hid (¬ F w.heap.size) := Lib.hid (fun e9 => by have := hF _ e9; omega)
  have hl2 : P.length ≤ 9223372036854775807 := by omega
  have H64 : (64 : Int) ≤ 9223372036854775807 := by decide
  have H256 : (256 : Int) ≤ 9223372036854775807 := by decide
  have h0 := Lib.hid (show (0 : Int) = ((0 : Nat) : Int) from rfl)
  have HV1 := Lib.hid (show (1 : Int) = ((numS P at_ 0 1).1 : Nat) by simp [hn])
  have HV2 := Lib.hid (show (numS P at_ 0 1).2.1 = a1 by rw [hn])
  have HV3 := Lib.hid (show (numS P at_ 0 1).2.2 = 0 by rw [hn])
  clear hn
  have HK := Lib.hid hk
  clear hk
  have HE : Hid ((e2 : Int) ≠ 0) := Lib.hid (by omega)
  clear he
  go_enter Try.func62, Try.ntmps62
  go_wp2_with (first
    | (go_at_call 95; go_loud (with_reducible refine (ru8N F b P at_ 0 1 a1 0 HV1.out HV2.out HV3.out _ HRd.out hl2).mono ?_); rintro r1 w1 ⟨rfl, hr1, hg1⟩; have T1 := HT.out.keepG hg1 (by omega); have R1 := HR.out.keepG hg1 (by omega); have hz1 := T1.lt; have d0 := T1.c0; have d1 := T1.c1; have d2 := T1.c2; have f0 := T1.fz 0; have f1 := T1.fz 1; have f2 := T1.fz 2; have S1 := Lib.hid (T1.set0 (.int .u8 1)); have g0 := S1.out.c0; have g1 := S1.out.c1; have g2 := S1.out.c2; have RR1 := Lib.hid (R1.keep (w' := w1.setCell ⟨w.heap.size + 1, 0, none⟩ (.int .u8 1)) ((setCell_grown w1 (w.heap.size + 1) 0 (.int .u8 1)).block _ R1.lt (fun e9 => by have := Option.some.inj e9; omega))); have q1 := Lib.hid (hr1.setBox (g := w.heap.size + 1) (j := 0) (v := .int .u8 1) HN1.out); have W1 := Lib.hid ((HW.out.grown hg1 HFb.out).box (g := w.heap.size + 1) (j := 0) (v := .int .u8 1) (by omega)); have tk1 := trivial)
    | (go_at_call 61; (have tk := tk1); clear tk1 tk; (with_reducible refine (errN F b P a1 0 0 h0.out _ q1.out).mono ?_); rintro r2 w2 ⟨rfl, rfl⟩)
    | (go_at_call 96; (with_reducible refine (rblobN F b P a1 0 64 _ K.length q1.out hl H64 K a2 e2 HK.out rfl).mono ?_); rintro r3 w3 ⟨A3, c3, rfl, hg3⟩; have T3 := S1.out.keepG hg3.grown (by omega); have R3 := RR1.out.keepG hg3.grown (by omega); have hz3 := T3.lt; have d0 := T3.c0; have d1 := T3.c1; have d2 := T3.c2; have f0 := T3.fz 0; have f1 := T3.fz 1; have f2 := T3.fz 2; have S3 := Lib.hid (T3.set1 (.slice A3 K.length c3)); have g0 := S3.out.c0; have g1 := S3.out.c1; have g2 := S3.out.c2; have RR3 := Lib.hid (R3.keep (w' := w3.setCell ⟨w.heap.size + 1, 1, none⟩ (.slice A3 K.length c3)) ((setCell_grown w3 (w.heap.size + 1) 1 (.slice A3 K.length c3)).block _ R3.lt (fun e9 => by have := Option.some.inj e9; omega))); have q3 := Lib.hid (hg3.rd.setBox (g := w.heap.size + 1) (j := 1) (v := .slice A3 K.length c3) HN1.out); have W3 := Lib.hid ((W1.out.grown hg3.grown HFb.out).box (g := w.heap.size + 1) (j := 1) (v := .slice A3 K.length c3) (by omega)); have n3 : Hid ((Value.slice A3 K.length c3).ownBlock ≠ some (w.heap.size + 1)) := Lib.hid (fun e9 => by have := (hg3.own.at_base _ e9).1; have := S1.out.lt; omega); have n30 : Hid ((Value.slice A3 K.length c3).ownBlock ≠ some w.heap.size) := Lib.hid (fun e9 => by have := (hg3.own.at_base _ e9).1; have := S1.out.lt; omega); have O3 := Lib.hid (hg3.own.keep (setCell_grown w3 (w.heap.size + 1) 1 (.slice A3 K.length c3)) (.inr n3.out)); have tk3 := trivial)
    | (go_at_call 61; (have tk := tk3); clear tk3 tk; (with_reducible refine (errN F b P a2 e2 e2 rfl _ q3.out).mono ?_); rintro r2 w2 ⟨rfl, rfl⟩)
    | (go_at_call 60; (with_reducible refine (refuse_ok _).mono ?_); rintro r2 w2 ⟨rfl, rfl⟩)
    | (go_at_call 60; (with_reducible refine (refuse_no e2 HE.out _).mono ?_); rintro r2 w2 ⟨rfl, rfl⟩))
  exact ⟨rfl, rfl, W3.out⟩
set_option maxHeartbeats 400000 in
set_option maxRecDepth 100000 in
theorem take_n3b (hr : Rd w F b P at_ 0) (hF : ∀ k, F k → k < w.heap.size) (hl : P.length ≤ 140737488355328) (K : List UInt8) (a1 a2 e2 : Nat) (hn : numS P at_ 0 1 = (2, a1, 0)) (hk : blobS P a1 0 64 = (K, a2, e2)) (he : e2 ≠ 0) :
    Calls Try.prog 62 #[.pointer (some ⟨b, 0, none⟩)] w fun r w' => r = .panicked [{ v := refV e2, recovered := false }] ∧ TkW w w' F := by
  have HB := Lib.hid (belowA (below_alloc1 (Below.refl w.heap.size w) (Nat.le_refl _) (.cells #[.int .u8 0, .slice none 0 0, .slice none 0 0] 26)) (.cells #[.int .u8 0, .slice none 0 0, .slice none 0 0] 26))
  have HT := Lib.hid (Trio.fresh (w.alloc (.cells #[.int .u8 0, .slice none 0 0, .slice none 0 0] 26)) (w.heap.size + 1) (asz _ _) (.int .u8 0) (.slice none 0 0) (.slice none 0 0) 26)
  have HR := Lib.hid ((Trio.fresh w w.heap.size rfl (.int .u8 0) (.slice none 0 0) (.slice none 0 0) 26).new (below_alloc1 (Below.refl _ _) (Nat.le_refl _) (.cells #[.int .u8 0, .slice none 0 0, .slice none 0 0] 26)))
  have HRd := Lib.hid (hr.new HB.out)
  have HFb := Lib.hid hr.lo
  have HW := Lib.hid (TkW.mk (Step.of_below HB.out F))
  have hbl := hr.bLt
  have HN1 : Hid (¬ F (w.heap.size + 1)) := Lib.hid (fun e9 => by have := hF _ e9; omega)
  have HN0 : Hid (¬ F w.heap.size) := Lib.hid (fun e9 => by have := hF _ e9; omega)
  have hl2 : P.length ≤ 9223372036854775807 := by omega
  have H64 : (64 : Int) ≤ 9223372036854775807 := by decide
  have H256 : (256 : Int) ≤ 9223372036854775807 := by decide
  have h0 := Lib.hid (show (0 : Int) = ((0 : Nat) : Int) from rfl)
  have HV1 := Lib.hid (show (2 : Int) = ((numS P at_ 0 1).1 : Nat) by simp [hn])
  have HV2 := Lib.hid (show (numS P at_ 0 1).2.1 = a1 by rw [hn])
  have HV3 := Lib.hid (show (numS P at_ 0 1).2.2 = 0 by rw [hn])
  clear hn
  have HK := Lib.hid hk
  clear hk
  have HE : Hid ((e2 : Int) ≠ 0) := Lib.hid (by omega)
  clear he
  go_enter Try.func62, Try.ntmps62
  go_wp2_with (first
    | (go_at_call 95; go_loud (with_reducible refine (ru8N F b P at_ 0 2 a1 0 HV1.out HV2.out HV3.out _ HRd.out hl2).mono ?_); rintro r1 w1 ⟨rfl, hr1, hg1⟩; have T1 := HT.out.keepG hg1 (by omega); have R1 := HR.out.keepG hg1 (by omega); have hz1 := T1.lt; have d0 := T1.c0; have d1 := T1.c1; have d2 := T1.c2; have f0 := T1.fz 0; have f1 := T1.fz 1; have f2 := T1.fz 2; have S1 := Lib.hid (T1.set0 (.int .u8 2)); have g0 := S1.out.c0; have g1 := S1.out.c1; have g2 := S1.out.c2; have RR1 := Lib.hid (R1.keep (w' := w1.setCell ⟨w.heap.size + 1, 0, none⟩ (.int .u8 2)) ((setCell_grown w1 (w.heap.size + 1) 0 (.int .u8 2)).block _ R1.lt (fun e9 => by have := Option.some.inj e9; omega))); have q1 := Lib.hid (hr1.setBox (g := w.heap.size + 1) (j := 0) (v := .int .u8 2) HN1.out); have W1 := Lib.hid ((HW.out.grown hg1 HFb.out).box (g := w.heap.size + 1) (j := 0) (v := .int .u8 2) (by omega)); have tk1 := trivial)
    | (go_at_call 61; (have tk := tk1); clear tk1 tk; (with_reducible refine (errN F b P a1 0 0 h0.out _ q1.out).mono ?_); rintro r2 w2 ⟨rfl, rfl⟩)
    | (go_at_call 96; (with_reducible refine (rblobN F b P a1 0 64 _ K.length q1.out hl H64 K a2 e2 HK.out rfl).mono ?_); rintro r3 w3 ⟨A3, c3, rfl, hg3⟩; have T3 := S1.out.keepG hg3.grown (by omega); have R3 := RR1.out.keepG hg3.grown (by omega); have hz3 := T3.lt; have d0 := T3.c0; have d1 := T3.c1; have d2 := T3.c2; have f0 := T3.fz 0; have f1 := T3.fz 1; have f2 := T3.fz 2; have S3 := Lib.hid (T3.set1 (.slice A3 K.length c3)); have g0 := S3.out.c0; have g1 := S3.out.c1; have g2 := S3.out.c2; have RR3 := Lib.hid (R3.keep (w' := w3.setCell ⟨w.heap.size + 1, 1, none⟩ (.slice A3 K.length c3)) ((setCell_grown w3 (w.heap.size + 1) 1 (.slice A3 K.length c3)).block _ R3.lt (fun e9 => by have := Option.some.inj e9; omega))); have q3 := Lib.hid (hg3.rd.setBox (g := w.heap.size + 1) (j := 1) (v := .slice A3 K.length c3) HN1.out); have W3 := Lib.hid ((W1.out.grown hg3.grown HFb.out).box (g := w.heap.size + 1) (j := 1) (v := .slice A3 K.length c3) (by omega)); have n3 : Hid ((Value.slice A3 K.length c3).ownBlock ≠ some (w.heap.size + 1)) := Lib.hid (fun e9 => by have := (hg3.own.at_base _ e9).1; have := S1.out.lt; omega); have n30 : Hid ((Value.slice A3 K.length c3).ownBlock ≠ some w.heap.size) := Lib.hid (fun e9 => by have := (hg3.own.at_base _ e9).1; have := S1.out.lt; omega); have O3 := Lib.hid (hg3.own.keep (setCell_grown w3 (w.heap.size + 1) 1 (.slice A3 K.length c3)) (.inr n3.out)); have tk3 := trivial)
    | (go_at_call 61; (have tk := tk3); clear tk3 tk; (with_reducible refine (errN F b P a2 e2 e2 rfl _ q3.out).mono ?_); rintro r2 w2 ⟨rfl, rfl⟩)
    | (go_at_call 60; (with_reducible refine (refuse_ok _).mono ?_); rintro r2 w2 ⟨rfl, rfl⟩)
    | (go_at_call 60; (with_reducible refine (refuse_no e2 HE.out _).mono ?_); rintro r2 w2 ⟨rfl, rfl⟩))
  exact ⟨rfl, rfl, W3.out⟩
set_option maxHeartbeats 400000 in
set_option maxRecDepth 100000 in
theorem take_n4 (hr : Rd w F b P at_ 0) (hF : ∀ k, F k → k < w.heap.size) (hl : P.length ≤ 140737488355328) (K V : List UInt8) (a1 a2 a3 e3 : Nat) (hn : numS P at_ 0 1 = (1, a1, 0)) (hk : blobS P a1 0 64 = (K, a2, 0)) (hv : blobS P a2 0 256 = (V, a3, e3)) (he : e3 ≠ 0) :
    Calls Try.prog 62 #[.pointer (some ⟨b, 0, none⟩)] w fun r w' => r = .panicked [{ v := refV e3, recovered := false }] ∧ TkW w w' F := by
  have HB := Lib.hid (belowA (below_alloc1 (Below.refl w.heap.size w) (Nat.le_refl _) (.cells #[.int .u8 0, .slice none 0 0, .slice none 0 0] 26)) (.cells #[.int .u8 0, .slice none 0 0, .slice none 0 0] 26))
  have HT := Lib.hid (Trio.fresh (w.alloc (.cells #[.int .u8 0, .slice none 0 0, .slice none 0 0] 26)) (w.heap.size + 1) (asz _ _) (.int .u8 0) (.slice none 0 0) (.slice none 0 0) 26)
  have HR := Lib.hid ((Trio.fresh w w.heap.size rfl (.int .u8 0) (.slice none 0 0) (.slice none 0 0) 26).new (below_alloc1 (Below.refl _ _) (Nat.le_refl _) (.cells #[.int .u8 0, .slice none 0 0, .slice none 0 0] 26)))
  have HRd := Lib.hid (hr.new HB.out)
  have HFb := Lib.hid hr.lo
  have HW := Lib.hid (TkW.mk (Step.of_below HB.out F))
  have hbl := hr.bLt
  have HN1 : Hid (¬ F (w.heap.size + 1)) := Lib.hid (fun e9 => by have := hF _ e9; omega)
  have HN0 : Hid (¬ F w.heap.size) := Lib.hid (fun e9 => by have := hF _ e9; omega)
  have hl2 : P.length ≤ 9223372036854775807 := by omega
  have H64 : (64 : Int) ≤ 9223372036854775807 := by decide
  have H256 : (256 : Int) ≤ 9223372036854775807 := by decide
  have h0 := Lib.hid (show (0 : Int) = ((0 : Nat) : Int) from rfl)
  have HV1 := Lib.hid (show (1 : Int) = ((numS P at_ 0 1).1 : Nat) by simp [hn])
  have HV2 := Lib.hid (show (numS P at_ 0 1).2.1 = a1 by rw [hn])
  have HV3 := Lib.hid (show (numS P at_ 0 1).2.2 = 0 by rw [hn])
  clear hn
  have HK := Lib.hid hk
  have HVV := Lib.hid hv
  clear hk hv
  have HE : Hid ((e3 : Int) ≠ 0) := Lib.hid (by omega)
  clear he
  go_enter Try.func62, Try.ntmps62
  go_wp2_with (first
    | (go_at_call 95; go_loud (with_reducible refine (ru8N F b P at_ 0 1 a1 0 HV1.out HV2.out HV3.out _ HRd.out hl2).mono ?_); rintro r1 w1 ⟨rfl, hr1, hg1⟩; have T1 := HT.out.keepG hg1 (by omega); have R1 := HR.out.keepG hg1 (by omega); have hz1 := T1.lt; have d0 := T1.c0; have d1 := T1.c1; have d2 := T1.c2; have f0 := T1.fz 0; have f1 := T1.fz 1; have f2 := T1.fz 2; have S1 := Lib.hid (T1.set0 (.int .u8 1)); have g0 := S1.out.c0; have g1 := S1.out.c1; have g2 := S1.out.c2; have RR1 := Lib.hid (R1.keep (w' := w1.setCell ⟨w.heap.size + 1, 0, none⟩ (.int .u8 1)) ((setCell_grown w1 (w.heap.size + 1) 0 (.int .u8 1)).block _ R1.lt (fun e9 => by have := Option.some.inj e9; omega))); have q1 := Lib.hid (hr1.setBox (g := w.heap.size + 1) (j := 0) (v := .int .u8 1) HN1.out); have W1 := Lib.hid ((HW.out.grown hg1 HFb.out).box (g := w.heap.size + 1) (j := 0) (v := .int .u8 1) (by omega)); have tk1 := trivial)
    | (go_at_call 61; (have tk := tk1); clear tk1 tk; (with_reducible refine (errN F b P a1 0 0 h0.out _ q1.out).mono ?_); rintro r2 w2 ⟨rfl, rfl⟩)
    | (go_at_call 96; (with_reducible refine (rblobN F b P a1 0 64 _ K.length q1.out hl H64 K a2 0 HK.out rfl).mono ?_); rintro r3 w3 ⟨A3, c3, rfl, hg3⟩; have T3 := S1.out.keepG hg3.grown (by omega); have R3 := RR1.out.keepG hg3.grown (by omega); have hz3 := T3.lt; have d0 := T3.c0; have d1 := T3.c1; have d2 := T3.c2; have f0 := T3.fz 0; have f1 := T3.fz 1; have f2 := T3.fz 2; have S3 := Lib.hid (T3.set1 (.slice A3 K.length c3)); have g0 := S3.out.c0; have g1 := S3.out.c1; have g2 := S3.out.c2; have RR3 := Lib.hid (R3.keep (w' := w3.setCell ⟨w.heap.size + 1, 1, none⟩ (.slice A3 K.length c3)) ((setCell_grown w3 (w.heap.size + 1) 1 (.slice A3 K.length c3)).block _ R3.lt (fun e9 => by have := Option.some.inj e9; omega))); have q3 := Lib.hid (hg3.rd.setBox (g := w.heap.size + 1) (j := 1) (v := .slice A3 K.length c3) HN1.out); have W3 := Lib.hid ((W1.out.grown hg3.grown HFb.out).box (g := w.heap.size + 1) (j := 1) (v := .slice A3 K.length c3) (by omega)); have n3 : Hid ((Value.slice A3 K.length c3).ownBlock ≠ some (w.heap.size + 1)) := Lib.hid (fun e9 => by have := (hg3.own.at_base _ e9).1; have := S1.out.lt; omega); have n30 : Hid ((Value.slice A3 K.length c3).ownBlock ≠ some w.heap.size) := Lib.hid (fun e9 => by have := (hg3.own.at_base _ e9).1; have := S1.out.lt; omega); have O3 := Lib.hid (hg3.own.keep (setCell_grown w3 (w.heap.size + 1) 1 (.slice A3 K.length c3)) (.inr n3.out)); have tk3 := trivial)
    | (go_at_call 61; (have tk := tk3); clear tk3 tk; (with_reducible refine (errN F b P a2 0 0 h0.out _ q3.out).mono ?_); rintro r2 w2 ⟨rfl, rfl⟩)
    | (go_at_call 96; (with_reducible refine (rblobN F b P a2 0 256 _ V.length q3.out hl H256 V a3 e3 HVV.out rfl).mono ?_); rintro r5 w5 ⟨A5, c5, rfl, hg5⟩; have T5 := S3.out.keepG hg5.grown (by omega); have R5 := RR3.out.keepG hg5.grown (by omega); have hz5 := T5.lt; have d0 := T5.c0; have d1 := T5.c1; have d2 := T5.c2; have f0 := T5.fz 0; have f1 := T5.fz 1; have f2 := T5.fz 2; have S5 := Lib.hid (T5.set2 (.slice A5 V.length c5)); have g0 := S5.out.c0; have g1 := S5.out.c1; have g2 := S5.out.c2; have RR5 := Lib.hid (R5.keep (w' := w5.setCell ⟨w.heap.size + 1, 2, none⟩ (.slice A5 V.length c5)) ((setCell_grown w5 (w.heap.size + 1) 2 (.slice A5 V.length c5)).block _ R5.lt (fun e9 => by have := Option.some.inj e9; omega))); have k0 := RR5.out.c0; have k1 := RR5.out.c1; have k2 := RR5.out.c2; have l0 := RR5.out.fz 0; have l1 := RR5.out.fz 1; have l2 := RR5.out.fz 2; have q5 := Lib.hid (hg5.rd.setBox (g := w.heap.size + 1) (j := 2) (v := .slice A5 V.length c5) HN1.out); have W5 := Lib.hid ((W3.out.grown hg5.grown HFb.out).box (g := w.heap.size + 1) (j := 2) (v := .slice A5 V.length c5) (by omega)); have n5 : Hid ((Value.slice A5 V.length c5).ownBlock ≠ some (w.heap.size + 1)) := Lib.hid (fun e9 => by have := (hg5.own.at_base _ e9).1; have := S3.out.lt; omega); have n50 : Hid ((Value.slice A5 V.length c5).ownBlock ≠ some w.heap.size) := Lib.hid (fun e9 => by have := (hg5.own.at_base _ e9).1; have := S3.out.lt; omega); have O5 := Lib.hid (hg5.own.keep (setCell_grown w5 (w.heap.size + 1) 2 (.slice A5 V.length c5)) (.inr n5.out)); have O35 := Lib.hid ((O3.out.keep (row := some b) hg5.grown (.inr (fun e9 => by have := (hg3.own.at_base _ e9).1; have := S1.out.lt; omega))).keep (setCell_grown w5 (w.heap.size + 1) 2 (.slice A5 V.length c5)) (.inr n3.out)); have tk5 := trivial)
    | (go_at_call 61; (have tk := tk5); clear tk5 tk; (with_reducible refine (errN F b P a3 e3 e3 rfl _ q5.out).mono ?_); rintro r2 w2 ⟨rfl, rfl⟩)
    | (go_at_call 60; (with_reducible refine (refuse_ok _).mono ?_); rintro r2 w2 ⟨rfl, rfl⟩)
    | (go_at_call 60; (with_reducible refine (refuse_no e3 HE.out _).mono ?_); rintro r2 w2 ⟨rfl, rfl⟩))
  exact ⟨rfl, rfl, W5.out⟩
set_option maxHeartbeats 400000 in
set_option maxRecDepth 100000 in
theorem take_put (hr : Rd w F b P at_ 0) (hF : ∀ k, F k → k < w.heap.size) (hl : P.length ≤ 140737488355328) (K V : List UInt8) (a1 a2 a3 : Nat) (hn : numS P at_ 0 1 = (1, a1, 0)) (hk : blobS P a1 0 64 = (K, a2, 0)) (hv : blobS P a2 0 256 = (V, a3, 0)) :
    Calls Try.prog 62 #[.pointer (some ⟨b, 0, none⟩)] w fun r w' => ∃ a : EnA, r = .returned (.agg #[.int .u8 (1 : Nat), .slice a.KA K.length a.kc, .slice a.VA V.length a.vc]) ∧ OB w' w.heap.size 5 (.slice a.KA K.length a.kc) K ∧ OB w' w.heap.size 5 (.slice a.VA V.length a.vc) V ∧ Rd w' F b P a3 0 ∧ TkW w w' F ∧ sepV (.slice a.KA K.length a.kc) (.slice a.VA V.length a.vc) := by
  have HB := Lib.hid (belowA (below_alloc1 (Below.refl w.heap.size w) (Nat.le_refl _) (.cells #[.int .u8 0, .slice none 0 0, .slice none 0 0] 26)) (.cells #[.int .u8 0, .slice none 0 0, .slice none 0 0] 26))
  have HT := Lib.hid (Trio.fresh (w.alloc (.cells #[.int .u8 0, .slice none 0 0, .slice none 0 0] 26)) (w.heap.size + 1) (asz _ _) (.int .u8 0) (.slice none 0 0) (.slice none 0 0) 26)
  have HR := Lib.hid ((Trio.fresh w w.heap.size rfl (.int .u8 0) (.slice none 0 0) (.slice none 0 0) 26).new (below_alloc1 (Below.refl _ _) (Nat.le_refl _) (.cells #[.int .u8 0, .slice none 0 0, .slice none 0 0] 26)))
  have HRd := Lib.hid (hr.new HB.out)
  have HFb := Lib.hid hr.lo
  have HW := Lib.hid (TkW.mk (Step.of_below HB.out F))
  have hbl := hr.bLt
  have HN1 : Hid (¬ F (w.heap.size + 1)) := Lib.hid (fun e9 => by have := hF _ e9; omega)
  have HN0 : Hid (¬ F w.heap.size) := Lib.hid (fun e9 => by have := hF _ e9; omega)
  have hl2 : P.length ≤ 9223372036854775807 := by omega
  have H64 : (64 : Int) ≤ 9223372036854775807 := by decide
  have H256 : (256 : Int) ≤ 9223372036854775807 := by decide
  have h0 := Lib.hid (show (0 : Int) = ((0 : Nat) : Int) from rfl)
  have HV1 := Lib.hid (show (1 : Int) = ((numS P at_ 0 1).1 : Nat) by simp [hn])
  have HV2 := Lib.hid (show (numS P at_ 0 1).2.1 = a1 by rw [hn])
  have HV3 := Lib.hid (show (numS P at_ 0 1).2.2 = 0 by rw [hn])
  clear hn
  have HK := Lib.hid hk
  have HVV := Lib.hid hv
  clear hk hv
  go_enter Try.func62, Try.ntmps62
  go_wp2_with (first
    | (go_at_call 95; go_loud (with_reducible refine (ru8N F b P at_ 0 1 a1 0 HV1.out HV2.out HV3.out _ HRd.out hl2).mono ?_); rintro r1 w1 ⟨rfl, hr1, hg1⟩; have T1 := HT.out.keepG hg1 (by omega); have R1 := HR.out.keepG hg1 (by omega); have hz1 := T1.lt; have d0 := T1.c0; have d1 := T1.c1; have d2 := T1.c2; have f0 := T1.fz 0; have f1 := T1.fz 1; have f2 := T1.fz 2; have S1 := Lib.hid (T1.set0 (.int .u8 1)); have g0 := S1.out.c0; have g1 := S1.out.c1; have g2 := S1.out.c2; have RR1 := Lib.hid (R1.keep (w' := w1.setCell ⟨w.heap.size + 1, 0, none⟩ (.int .u8 1)) ((setCell_grown w1 (w.heap.size + 1) 0 (.int .u8 1)).block _ R1.lt (fun e9 => by have := Option.some.inj e9; omega))); have q1 := Lib.hid (hr1.setBox (g := w.heap.size + 1) (j := 0) (v := .int .u8 1) HN1.out); have W1 := Lib.hid ((HW.out.grown hg1 HFb.out).box (g := w.heap.size + 1) (j := 0) (v := .int .u8 1) (by omega)); have tk1 := trivial)
    | (go_at_call 61; (have tk := tk1); clear tk1 tk; (with_reducible refine (errN F b P a1 0 0 h0.out _ q1.out).mono ?_); rintro r2 w2 ⟨rfl, rfl⟩)
    | (go_at_call 96; (with_reducible refine (rblobN F b P a1 0 64 _ K.length q1.out hl H64 K a2 0 HK.out rfl).mono ?_); rintro r3 w3 ⟨A3, c3, rfl, hg3⟩; have T3 := S1.out.keepG hg3.grown (by omega); have R3 := RR1.out.keepG hg3.grown (by omega); have hz3 := T3.lt; have d0 := T3.c0; have d1 := T3.c1; have d2 := T3.c2; have f0 := T3.fz 0; have f1 := T3.fz 1; have f2 := T3.fz 2; have S3 := Lib.hid (T3.set1 (.slice A3 K.length c3)); have g0 := S3.out.c0; have g1 := S3.out.c1; have g2 := S3.out.c2; have RR3 := Lib.hid (R3.keep (w' := w3.setCell ⟨w.heap.size + 1, 1, none⟩ (.slice A3 K.length c3)) ((setCell_grown w3 (w.heap.size + 1) 1 (.slice A3 K.length c3)).block _ R3.lt (fun e9 => by have := Option.some.inj e9; omega))); have q3 := Lib.hid (hg3.rd.setBox (g := w.heap.size + 1) (j := 1) (v := .slice A3 K.length c3) HN1.out); have W3 := Lib.hid ((W1.out.grown hg3.grown HFb.out).box (g := w.heap.size + 1) (j := 1) (v := .slice A3 K.length c3) (by omega)); have n3 : Hid ((Value.slice A3 K.length c3).ownBlock ≠ some (w.heap.size + 1)) := Lib.hid (fun e9 => by have := (hg3.own.at_base _ e9).1; have := S1.out.lt; omega); have n30 : Hid ((Value.slice A3 K.length c3).ownBlock ≠ some w.heap.size) := Lib.hid (fun e9 => by have := (hg3.own.at_base _ e9).1; have := S1.out.lt; omega); have O3 := Lib.hid (hg3.own.keep (setCell_grown w3 (w.heap.size + 1) 1 (.slice A3 K.length c3)) (.inr n3.out)); have tk3 := trivial)
    | (go_at_call 61; (have tk := tk3); clear tk3 tk; (with_reducible refine (errN F b P a2 0 0 h0.out _ q3.out).mono ?_); rintro r2 w2 ⟨rfl, rfl⟩)
    | (go_at_call 96; (with_reducible refine (rblobN F b P a2 0 256 _ V.length q3.out hl H256 V a3 0 HVV.out rfl).mono ?_); rintro r5 w5 ⟨A5, c5, rfl, hg5⟩; have T5 := S3.out.keepG hg5.grown (by omega); have R5 := RR3.out.keepG hg5.grown (by omega); have hz5 := T5.lt; have d0 := T5.c0; have d1 := T5.c1; have d2 := T5.c2; have f0 := T5.fz 0; have f1 := T5.fz 1; have f2 := T5.fz 2; have S5 := Lib.hid (T5.set2 (.slice A5 V.length c5)); have g0 := S5.out.c0; have g1 := S5.out.c1; have g2 := S5.out.c2; have RR5 := Lib.hid (R5.keep (w' := w5.setCell ⟨w.heap.size + 1, 2, none⟩ (.slice A5 V.length c5)) ((setCell_grown w5 (w.heap.size + 1) 2 (.slice A5 V.length c5)).block _ R5.lt (fun e9 => by have := Option.some.inj e9; omega))); have k0 := RR5.out.c0; have k1 := RR5.out.c1; have k2 := RR5.out.c2; have l0 := RR5.out.fz 0; have l1 := RR5.out.fz 1; have l2 := RR5.out.fz 2; have q5 := Lib.hid (hg5.rd.setBox (g := w.heap.size + 1) (j := 2) (v := .slice A5 V.length c5) HN1.out); have W5 := Lib.hid ((W3.out.grown hg5.grown HFb.out).box (g := w.heap.size + 1) (j := 2) (v := .slice A5 V.length c5) (by omega)); have n5 : Hid ((Value.slice A5 V.length c5).ownBlock ≠ some (w.heap.size + 1)) := Lib.hid (fun e9 => by have := (hg5.own.at_base _ e9).1; have := S3.out.lt; omega); have n50 : Hid ((Value.slice A5 V.length c5).ownBlock ≠ some w.heap.size) := Lib.hid (fun e9 => by have := (hg5.own.at_base _ e9).1; have := S3.out.lt; omega); have O5 := Lib.hid (hg5.own.keep (setCell_grown w5 (w.heap.size + 1) 2 (.slice A5 V.length c5)) (.inr n5.out)); have O35 := Lib.hid ((O3.out.keep (row := some b) hg5.grown (.inr (fun e9 => by have := (hg3.own.at_base _ e9).1; have := S1.out.lt; omega))).keep (setCell_grown w5 (w.heap.size + 1) 2 (.slice A5 V.length c5)) (.inr n3.out)); have KV5 : Hid (sepV (.slice A3 K.length c3) (.slice A5 V.length c5)) := Lib.hid (sepV.of_lt (fun k hk => (hg3.own.at_base k hk).2) (fun k hk => by have := (hg5.own.at_base k hk).1; rw [show (w3.setCell ⟨w.heap.size + 1, 1, none⟩ (.slice A3 K.length c3)).heap.size = w3.heap.size by simp [World.setCell]] at this; exact this)); have tk5 := trivial)
    | (go_at_call 61; (have tk := tk5); clear tk5 tk; (with_reducible refine (errN F b P a3 0 0 h0.out _ q5.out).mono ?_); rintro r2 w2 ⟨rfl, rfl⟩)
    | (go_at_call 60; (with_reducible refine (refuse_ok _).mono ?_); rintro r2 w2 ⟨rfl, rfl⟩))
  have RR := RR5.out.put (.int .u8 1) (.slice A3 K.length c3) (.slice A5 V.length c5)
  exact bodyPost_ret (results_en rfl _ _ w.heap.size _ _ _ rfl RR.c0 RR.c1 RR.c2) rfl ⟨⟨A3, c3, A5, c5⟩, rfl, (O35.out.mono (by have := S1.out.lt; omega)).put3 n30.out _ _ _, (O5.out.mono (by have := S3.out.lt; omega)).put3 n50.out _ _ _, ((q5.out.setBox HN0.out).setBox HN0.out).setBox HN0.out, ((W5.out.box (Nat.le_refl _)).box (Nat.le_refl _)).box (Nat.le_refl _), KV5.out⟩
set_option maxHeartbeats 400000 in
set_option maxRecDepth 100000 in
theorem take_del (hr : Rd w F b P at_ 0) (hF : ∀ k, F k → k < w.heap.size) (hl : P.length ≤ 140737488355328) (K : List UInt8) (a1 a2 : Nat) (hn : numS P at_ 0 1 = (2, a1, 0)) (hk : blobS P a1 0 64 = (K, a2, 0)) :
    Calls Try.prog 62 #[.pointer (some ⟨b, 0, none⟩)] w fun r w' => ∃ a : EnA, r = .returned (.agg #[.int .u8 (2 : Nat), .slice a.KA K.length a.kc, .slice a.VA ([] : List UInt8).length a.vc]) ∧ OB w' w.heap.size 5 (.slice a.KA K.length a.kc) K ∧ OB w' w.heap.size 5 (.slice a.VA ([] : List UInt8).length a.vc) ([] : List UInt8) ∧ Rd w' F b P a2 0 ∧ TkW w w' F ∧ sepV (.slice a.KA K.length a.kc) (.slice a.VA ([] : List UInt8).length a.vc) := by
  have HB := Lib.hid (belowA (below_alloc1 (Below.refl w.heap.size w) (Nat.le_refl _) (.cells #[.int .u8 0, .slice none 0 0, .slice none 0 0] 26)) (.cells #[.int .u8 0, .slice none 0 0, .slice none 0 0] 26))
  have HT := Lib.hid (Trio.fresh (w.alloc (.cells #[.int .u8 0, .slice none 0 0, .slice none 0 0] 26)) (w.heap.size + 1) (asz _ _) (.int .u8 0) (.slice none 0 0) (.slice none 0 0) 26)
  have HR := Lib.hid ((Trio.fresh w w.heap.size rfl (.int .u8 0) (.slice none 0 0) (.slice none 0 0) 26).new (below_alloc1 (Below.refl _ _) (Nat.le_refl _) (.cells #[.int .u8 0, .slice none 0 0, .slice none 0 0] 26)))
  have HRd := Lib.hid (hr.new HB.out)
  have HFb := Lib.hid hr.lo
  have HW := Lib.hid (TkW.mk (Step.of_below HB.out F))
  have hbl := hr.bLt
  have HN1 : Hid (¬ F (w.heap.size + 1)) := Lib.hid (fun e9 => by have := hF _ e9; omega)
  have HN0 : Hid (¬ F w.heap.size) := Lib.hid (fun e9 => by have := hF _ e9; omega)
  have hl2 : P.length ≤ 9223372036854775807 := by omega
  have H64 : (64 : Int) ≤ 9223372036854775807 := by decide
  have H256 : (256 : Int) ≤ 9223372036854775807 := by decide
  have h0 := Lib.hid (show (0 : Int) = ((0 : Nat) : Int) from rfl)
  have HV1 := Lib.hid (show (2 : Int) = ((numS P at_ 0 1).1 : Nat) by simp [hn])
  have HV2 := Lib.hid (show (numS P at_ 0 1).2.1 = a1 by rw [hn])
  have HV3 := Lib.hid (show (numS P at_ 0 1).2.2 = 0 by rw [hn])
  clear hn
  have HK := Lib.hid hk
  clear hk
  go_enter Try.func62, Try.ntmps62
  go_wp2_with (first
    | (go_at_call 95; go_loud (with_reducible refine (ru8N F b P at_ 0 2 a1 0 HV1.out HV2.out HV3.out _ HRd.out hl2).mono ?_); rintro r1 w1 ⟨rfl, hr1, hg1⟩; have T1 := HT.out.keepG hg1 (by omega); have R1 := HR.out.keepG hg1 (by omega); have hz1 := T1.lt; have d0 := T1.c0; have d1 := T1.c1; have d2 := T1.c2; have f0 := T1.fz 0; have f1 := T1.fz 1; have f2 := T1.fz 2; have S1 := Lib.hid (T1.set0 (.int .u8 2)); have g0 := S1.out.c0; have g1 := S1.out.c1; have g2 := S1.out.c2; have RR1 := Lib.hid (R1.keep (w' := w1.setCell ⟨w.heap.size + 1, 0, none⟩ (.int .u8 2)) ((setCell_grown w1 (w.heap.size + 1) 0 (.int .u8 2)).block _ R1.lt (fun e9 => by have := Option.some.inj e9; omega))); have q1 := Lib.hid (hr1.setBox (g := w.heap.size + 1) (j := 0) (v := .int .u8 2) HN1.out); have W1 := Lib.hid ((HW.out.grown hg1 HFb.out).box (g := w.heap.size + 1) (j := 0) (v := .int .u8 2) (by omega)); have tk1 := trivial)
    | (go_at_call 61; (have tk := tk1); clear tk1 tk; (with_reducible refine (errN F b P a1 0 0 h0.out _ q1.out).mono ?_); rintro r2 w2 ⟨rfl, rfl⟩)
    | (go_at_call 96; (with_reducible refine (rblobN F b P a1 0 64 _ K.length q1.out hl H64 K a2 0 HK.out rfl).mono ?_); rintro r3 w3 ⟨A3, c3, rfl, hg3⟩; have T3 := S1.out.keepG hg3.grown (by omega); have R3 := RR1.out.keepG hg3.grown (by omega); have hz3 := T3.lt; have d0 := T3.c0; have d1 := T3.c1; have d2 := T3.c2; have f0 := T3.fz 0; have f1 := T3.fz 1; have f2 := T3.fz 2; have S3 := Lib.hid (T3.set1 (.slice A3 K.length c3)); have g0 := S3.out.c0; have g1 := S3.out.c1; have g2 := S3.out.c2; have RR3 := Lib.hid (R3.keep (w' := w3.setCell ⟨w.heap.size + 1, 1, none⟩ (.slice A3 K.length c3)) ((setCell_grown w3 (w.heap.size + 1) 1 (.slice A3 K.length c3)).block _ R3.lt (fun e9 => by have := Option.some.inj e9; omega))); have k0 := RR3.out.c0; have k1 := RR3.out.c1; have k2 := RR3.out.c2; have l0 := RR3.out.fz 0; have l1 := RR3.out.fz 1; have l2 := RR3.out.fz 2; have q3 := Lib.hid (hg3.rd.setBox (g := w.heap.size + 1) (j := 1) (v := .slice A3 K.length c3) HN1.out); have W3 := Lib.hid ((W1.out.grown hg3.grown HFb.out).box (g := w.heap.size + 1) (j := 1) (v := .slice A3 K.length c3) (by omega)); have n3 : Hid ((Value.slice A3 K.length c3).ownBlock ≠ some (w.heap.size + 1)) := Lib.hid (fun e9 => by have := (hg3.own.at_base _ e9).1; have := S1.out.lt; omega); have n30 : Hid ((Value.slice A3 K.length c3).ownBlock ≠ some w.heap.size) := Lib.hid (fun e9 => by have := (hg3.own.at_base _ e9).1; have := S1.out.lt; omega); have O3 := Lib.hid (hg3.own.keep (setCell_grown w3 (w.heap.size + 1) 1 (.slice A3 K.length c3)) (.inr n3.out)); have tk3 := trivial)
    | (go_at_call 61; (have tk := tk3); clear tk3 tk; (with_reducible refine (errN F b P a2 0 0 h0.out _ q3.out).mono ?_); rintro r2 w2 ⟨rfl, rfl⟩)
    | (go_at_call 60; (with_reducible refine (refuse_ok _).mono ?_); rintro r2 w2 ⟨rfl, rfl⟩))
  have RR := RR3.out.put (.int .u8 2) (.slice A3 K.length c3) (.slice none 0 0)
  exact bodyPost_ret (results_en rfl _ _ w.heap.size _ _ _ rfl RR.c0 RR.c1 RR.c2) rfl ⟨⟨A3, c3, none, 0⟩, rfl, (O3.out.mono (by have := S1.out.lt; omega)).put3 n30.out _ _ _, OB.nil _ _ _, ((q3.out.setBox HN0.out).setBox HN0.out).setBox HN0.out, ((W3.out.box (Nat.le_refl _)).box (Nat.le_refl _)).box (Nat.le_refl _), (Classical.em _).imp id id⟩

end
theorem etake_ok (F : Nat → Prop) (b : Nat) (P : List UInt8) (at_ : Nat) (w : World) (hr : Rd w F b P at_ 0) (hF : ∀ k, F k → k < w.heap.size) (hl : P.length ≤ 140737488355328) (t : Ent) (ht : entS P at_ = t) (h0 : t.e = 0) :
    Calls Try.prog 62 #[.pointer (some ⟨b, 0, none⟩)] w fun r w' => ∃ a : EnA, r = .returned (.agg #[.int .u8 t.v.k, .slice a.KA t.v.K.length a.kc, .slice a.VA t.v.V.length a.vc]) ∧ OB w' w.heap.size 5 (.slice a.KA t.v.K.length a.kc) t.v.K ∧ OB w' w.heap.size 5 (.slice a.VA t.v.V.length a.vc) t.v.V ∧ Rd w' F b P t.at_ 0 ∧ TkW w w' F ∧ sepV (.slice a.KA t.v.K.length a.kc) (.slice a.VA t.v.V.length a.vc) := by
  unfold entS at ht
  split at ht
  · rename_i h1; subst ht; exact absurd h0 h1
  · rename_i h1
    split at ht
    · subst ht; exact absurd h0 (by decide)
    · rename_i h2
      split at ht
      · rename_i h3; subst ht; exact absurd h0 h3
      · rename_i h3
        generalize hn : numS P at_ 0 1 = n at *
        obtain ⟨kv, a1, e1⟩ := n
        simp only at h1 h2 h3 ht
        obtain rfl : e1 = 0 := by omega
        generalize hk : blobS P a1 0 64 = k at *
        obtain ⟨K, a2, e2⟩ := k
        simp only at h3 ht
        obtain rfl : e2 = 0 := by omega
        split at ht
        · rename_i h4
          subst h4
          generalize hv : blobS P a2 0 256 = v at *
          obtain ⟨V, a3, e3⟩ := v
          simp only at ht
          split at ht
          · rename_i h5; subst ht; exact absurd h0 h5
          · rename_i h5
            obtain rfl : e3 = 0 := by omega
            subst ht
            exact take_put F b P at_ w hr hF hl K V a1 a2 a3 hn hk hv
        · rename_i h4
          obtain rfl : kv = 2 := by omega
          subst ht
          exact take_del F b P at_ w hr hF hl K a1 a2 hn hk
theorem etake_no (F : Nat → Prop) (b : Nat) (P : List UInt8) (at_ : Nat) (w : World) (hr : Rd w F b P at_ 0) (hF : ∀ k, F k → k < w.heap.size) (hl : P.length ≤ 140737488355328) (t : Ent) (ht : entS P at_ = t) (h0 : t.e ≠ 0) :
    Calls Try.prog 62 #[.pointer (some ⟨b, 0, none⟩)] w fun r w' => r = .panicked [{ v := refV t.e, recovered := false }] ∧ TkW w w' F := by
  unfold entS at ht
  generalize hn : numS P at_ 0 1 = n at *
  obtain ⟨kv, a1, e1⟩ := n
  simp only at ht
  split at ht
  · rename_i h1
    subst ht
    exact take_n1 F b P at_ w hr hF hl kv a1 e1 hn h1
  · rename_i h1
    obtain rfl : e1 = 0 := by omega
    split at ht
    · rename_i h2
      subst ht
      exact take_n2 F b P at_ w hr hF hl kv a1 hn h2.1 h2.2
    · rename_i h2
      generalize hk : blobS P a1 0 64 = k at *
      obtain ⟨K, a2, e2⟩ := k
      simp only at ht
      split at ht
      · rename_i h3
        subst ht
        rcases (by omega : kv = 1 ∨ kv = 2) with rfl | rfl
        · exact take_n3a F b P at_ w hr hF hl K a1 a2 e2 hn hk h3
        · exact take_n3b F b P at_ w hr hF hl K a1 a2 e2 hn hk h3
      · rename_i h3
        obtain rfl : e2 = 0 := by omega
        split at ht
        · rename_i h4
          subst h4
          generalize hv : blobS P a2 0 256 = v at *
          obtain ⟨V, a3, e3⟩ := v
          simp only at ht
          split at ht
          · rename_i h5
            subst ht
            exact take_n4 F b P at_ w hr hF hl K V a1 a2 a3 e3 hn hk hv h5
          · subst ht; exact absurd rfl h0
        · subst ht; exact absurd rfl h0
end Go.Proofs.Ytelecdncdaepnaa
