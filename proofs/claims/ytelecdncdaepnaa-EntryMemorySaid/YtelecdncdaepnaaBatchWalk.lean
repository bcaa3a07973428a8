/- The walk of entry.DecodeBatch. -/
import Derived.Test.YtelecdncdaepnaaEntryApart
import Derived.Deep.RegionLaw
import Derived.Deep.DrawnRows
namespace Go.Proofs.Ytelecdncdaepnaa
open Go.RowKit
open WireMath (numS beN rawS blobS uvarS grpL uvarL wideL)
attribute [local go_sem ↓] Go.wp_at_zero Go.wp_at_succ

structure EntL where
  e : Nat
  l : List En
  at_ : Nat
def entsS (P : List UInt8) : Nat → Nat → EntL
  | 0, at_ => ⟨0, [], at_⟩
  | n + 1, at_ => if (entS P at_).e ≠ 0 then ⟨(entS P at_).e, [], 0⟩ else ⟨(entsS P n (entS P at_).at_).e, (entS P at_).v :: (entsS P n (entS P at_).at_).l, (entsS P n (entS P at_).at_).at_⟩
/-- what DecodeBatch answers -/
structure Bat where
  e : Nat
  f : Nat
  l : List En
def batNo (e : Nat) : Bat := ⟨e, 0, []⟩
def batF (P : List UInt8) (f n a2 : Nat) : Bat :=
  if (entsS P n a2).e ≠ 0 then batNo (entsS P n a2).e
  else if doneE P (entsS P n a2).at_ 0 ≠ 0 then batNo (doneE P (entsS P n a2).at_ 0)
  else ⟨0, f, (entsS P n a2).l⟩
def decB (P : List UInt8) : Bat :=
  if (uvarS P 0 0).2.2 ≠ 0 then batNo (uvarS P 0 0).2.2
  else if (uvarS P (uvarS P 0 0).2.1 0).2.2 ≠ 0 then batNo (uvarS P (uvarS P 0 0).2.1 0).2.2
  else if 64 < (uvarS P (uvarS P 0 0).2.1 0).1 then batNo 2
  else if (uvarS P (uvarS P 0 0).2.1 0).1 = 0 ∨ 18446744073709551616 ≤ (uvarS P 0 0).1 + (uvarS P (uvarS P 0 0).2.1 0).1 then batNo 3
  else batF P (uvarS P 0 0).1 (uvarS P (uvarS P 0 0).2.1 0).1 (uvarS P (uvarS P 0 0).2.1 0).2.1
/-- two cells of a box -/
structure Duo (w : World) (b : Nat) (x y : Value) : Prop where
  c0 : w.cell? ⟨b, 0, none⟩ = some x
  c1 : w.cell? ⟨b, 1, none⟩ = some y
  fz : ∀ j, w.frozen? ⟨b, j, none⟩ = false
theorem Duo.fresh (w : World) (k : Nat) (hk : w.heap.size = k) (x y : Value) (t : TypeId) : Duo (w.alloc (.cells #[x, y] t)) k x y := by
  subst hk
  have e := heap_alloc_new w (.cells #[x, y] t)
  exact ⟨by rw [cell_of_row _ _ _ _ _ _ e]; rfl, by rw [cell_of_row _ _ _ _ _ _ e]; rfl, fun _ => frozen_of_row _ _ _ #[x, y] t e⟩
theorem Duo.keep {w w' : World} {b : Nat} {x y : Value} (h : Duo w b x y) (hb : w'.heap[b]? = w.heap[b]?) : Duo w' b x y :=
  ⟨(World.cell?_of_block (a := ⟨b, 0, none⟩) hb).trans h.c0, (World.cell?_of_block (a := ⟨b, 1, none⟩) hb).trans h.c1, fun j => (World.frozen?_of_block (a := ⟨b, j, none⟩) hb).trans (h.fz j)⟩
theorem Duo.lt {w : World} {b : Nat} {x y : Value} (h : Duo w b x y) : b < w.heap.size := World.block_lt_of_cell? w _ h.c0
theorem Duo.new {w w' : World} {b : Nat} {x y : Value} (h : Duo w b x y) (B : Below w.heap.size w w') : Duo w' b x y := h.keep (B.block b h.lt)
theorem Duo.stepE {w w' : World} {F F' : Nat → Prop} {b : Nat} {x y : Value} (h : Duo w b x y) (hs : Step w w' F F') (hf : ¬ F b) : Duo w' b x y := h.keep (hs.block b h.lt hf)
theorem Duo.grown {w w' : World} {b c : Nat} {x y : Value} (h : Duo w b x y) (hg : w.grownBy w' (some c)) (hb : b ≠ c) : Duo w' b x y := h.keep (hg.block b h.lt (fun e => hb (Option.some.inj e)))
theorem Duo.other {w : World} {b g j : Nat} {x y u : Value} (h : Duo w b x y) (hne : b ≠ g) : Duo (w.setCell ⟨g, j, none⟩ u) b x y := h.keep ((setCell_grown w g j u).block b h.lt (fun e => hne (Option.some.inj e)))
theorem Duo.set0 {w : World} {b : Nat} {x y : Value} (h : Duo w b x y) (u : Value) : Duo (w.setCell ⟨b, 0, none⟩ u) b u y :=
  ⟨World.cell?_setCell_same _ _ _ h.c0, (World.cell?_setCell_other _ _ _ _ (by simp)).trans h.c1, fun j => by rw [World.frozen?_setCell]; exact h.fz j⟩
theorem Duo.set1 {w : World} {b : Nat} {x y : Value} (h : Duo w b x y) (u : Value) : Duo (w.setCell ⟨b, 1, none⟩ u) b x u :=
  ⟨(World.cell?_setCell_other _ _ _ _ (by simp)).trans h.c0, World.cell?_setCell_same _ _ _ h.c1, fun j => by rw [World.frozen?_setCell]; exact h.fz j⟩
theorem One.grown {w w' : World} {b c : Nat} {x : Value} (h : One w b x) (hg : w.grownBy w' (some c)) (hb : b ≠ c) : One w' b x := h.keep (hg.block b h.lt (fun e => hb (Option.some.inj e)))
theorem One.stepE {w w' : World} {F F' : Nat → Prop} {b : Nat} {x : Value} (h : One w b x) (hs : Step w w' F F') (hf : ¬ F b) : One w' b x := h.keep (hs.block b h.lt hf)
theorem results_batch {fn : Func} {p q : Tmp} (h : fn.results = #[.cell p 34, .cell q 35]) (tmps : Array Value) (w : World) (b c : Nat) (x y u : Value) (hp : tmps.getD p undef = .pointer (some ⟨b, 0, none⟩)) (hq : tmps.getD q undef = .pointer (some ⟨c, 0, none⟩)) (ht : Duo w b x y) (hu : w.cell? ⟨c, 0, none⟩ = some u) :
    (results fn tmps).run Try.prog w = .ok (.tuple #[.agg #[x, y], u]) w := by
  have hp' : tmps[p]?.getD undef = .pointer (some ⟨b, 0, none⟩) := by simpa using hp
  have hq' : tmps[q]?.getD undef = .pointer (some ⟨c, 0, none⟩) := by simpa using hq
  have hl := run_loadVar_mid (P := Try.prog) w b 0 34 [x, y] _ (fun j v hj => by
    match j, hj with
    | 0, hj => simp at hj; subst hj; simpa using ht.c0
    | 1, hj => simp at hj; subst hj; simpa using ht.c1
    | j + 2, hj => simp at hj) Try.underlying34 rfl (by kernel_rfl)
  have hl2 : (loadVar 35 ⟨c, 0, none⟩).run Try.prog w = .ok u w := by
    simp [loadVar, go_sem, hu]
  simp [results, h, hp', hq', asAddr, hl, hl2]
theorem undoB_ok (pe pa : Addr) (u : FrameMode) (w : World) (hc : w.cell? pe = some (.int .i64 0)) :
    CallsD Try.prog 56 #[.pointer (some pe), .pointer (some pa)] u w fun r u' w' => u' = u ∧ (r = .returned (.tuple #[]) ∧ w' = w) := by
  go_enter_d Try.func56, Try.ntmps56
  go_wp2
  go_end0
  exact ⟨rfl, rfl⟩
theorem undoB_no (pe : Addr) (g : Nat) (e : Int) (he : e ≠ 0) (x y : Value) (u : FrameMode) (w : World) (hc : w.cell? pe = some (.int .i64 e)) (hT : Duo w g x y) :
    CallsD Try.prog 56 #[.pointer (some pe), .pointer (some ⟨g, 0, none⟩)] u w fun r u' w' => u' = u ∧ (r = .returned (.tuple #[]) ∧ w' = (w.setCell ⟨g, 0, none⟩ (.int .u64 0)).setCell ⟨g, 1, none⟩ (.slice none 0 0)) := by
  have hb : (e != 0) = true := by rw [bne_iff_ne]; exact he
  have h0 := hT.c0
  have h1 := hT.c1
  have f0 := hT.fz 0
  have f1 := hT.fz 1
  clear he
  go_enter_d Try.func56, Try.ntmps56
  go_wp2
  go_end0
  exact ⟨rfl, rfl⟩
theorem efits_calls (f n : Nat) (F : Int) (hF : F = f) (hf : f ≤ 18446744073709551615) (hn : n ≤ 9223372036854775807) (w : World) (r : Bool) (hr : decide (f + n < 18446744073709551616) = r) :
    Calls Try.prog 46 #[.int .u64 F, .int .i64 n] w fun e w' => e = .returned (.bool r) ∧ w = w' := by
  subst hF
  have hc : IntKind.u64.wrap (n : Int) = n := u64_nat n hn
  go_enter Try.func46, Try.ntmps46
  go_wp2
  go_ret
  refine ⟨ret_bool ?_, rfl⟩
  subst hr
  have e1 : IntKind.u64.wrap ((f : Int) + n) = ((f + n) % 18446744073709551616 : Nat) := by rw [IntKind.wrap_u64]; omega
  first
    | rw [e1]
    | skip
  simp only [decide_eq_decide]
  omega
theorem ruvarW (F : Nat → Prop) (b : Nat) (P : List UInt8) (at_ : Nat) (v : Int) (n a2 e2 : Nat) (hv : v = n) (hU : uvarS P at_ 0 = (n, a2, e2)) (w : World) (hr : Rd w F b P at_ 0) (hl : P.length ≤ 9223372036854775807) :
    Calls Try.prog 59 #[.pointer (some ⟨b, 0, none⟩)] w fun e' w' => e' = .returned (.int .u64 v) ∧ Rd w' F b P a2 e2 ∧ w.grownBy w' (some b) := by
  have := ruvar_calls F b P at_ 0 w hr hl
  rw [hU] at this
  subst hv
  exact this
/-- a batch as it is answered -/
structure BatAt (w w' : World) (A : Option Addr) (n : Nat) (l : List En) : Prop where
  out : ∃ es, ensOf es = l ∧ n = es.length ∧ Ents w' A es
  below : Below w.heap.size w w'
/-- a batch's answer, and that its lists lie apart -/
structure BatK (w w' : World) (A : Option Addr) (n : Nat) (l : List En) : Prop where
  out : ∃ es c1, ensOf es = l ∧ n = es.length ∧ EL w' w.heap.size (.slice A es.length c1) es.length es ∧ SepE w' w.heap.size es
  below : Below w.heap.size w w'
theorem BatK.at {w w' : World} {A : Option Addr} {n : Nat} {l : List En} (h : BatK w w' A n l) : BatAt w w' A n l := ⟨let ⟨es, _, h1, h2, h3, _⟩ := h.out; ⟨es, h1, h2, h3.reads⟩, h.below⟩
theorem uvarS_lt (P : List UInt8) (at_ e : Nat) : (uvarS P at_ e).1 ≤ 18446744073709551615 := by
  unfold WireMath.uvarS
  split
  · simp
  · have := WireMath.grpL_lt (P.drop at_); simp only; omega
set_option maxHeartbeats 400000 in
set_option maxRecDepth 100000 in
theorem batch_n1 (A : Option Addr) (P : List UInt8) (n c : Nat) (w : World) (hp : RB w A c P) (hn : n = P.length) (hl : P.length ≤ 140737488355328) (f a1 e1 : Nat) (hU1 : uvarS P 0 0 = (f, a1, e1)) (he : e1 ≠ 0) :
    Calls Try.prog 21 #[.slice A n c] w fun r w' => r = .returned (.tuple #[.agg #[.int .u64 0, .slice none 0 0], .int .i64 e1]) ∧ Below w.heap.size w w' := by
  subst hn
  have hmf : ∀ (fn : Fn) (first cap : Array Value) (w : World), (Instr.makeFunc fn first cap).run Try.prog w = .ok (.func fn first cap) w := fun _ _ _ _ => rfl
  have HB := Lib.hid (belowA (below_alloc1 (Below.refl w.heap.size w) (Nat.le_refl _) (.cells #[.int .u64 0, .slice none 0 0] 34)) (.cells #[.int .i64 0] 35))
  have HT := Lib.hid ((Duo.fresh w w.heap.size rfl (.int .u64 0) (.slice none 0 0) 34).new (below_alloc1 (Below.refl _ _) (Nat.le_refl _) (.cells #[.int .i64 0] 35)))
  have HO := Lib.hid (One.fresh (w.alloc (.cells #[.int .u64 0, .slice none 0 0] 34)) (w.heap.size + 1) (asz _ _) (.int .i64 0) 35)
  have hl2 : P.length ≤ 9223372036854775807 := by omega
  have h0 := Lib.hid (show (0 : Int) = ((0 : Nat) : Int) from rfl)
  have HU1 := Lib.hid hU1
  have HE : Hid ((e1 : Int) ≠ 0) := Lib.hid (by omega)
  clear hU1 he
  go_enter_defers Try.func21, Try.ntmps21
  go_wp2_with (first
    | (go_at_call 58; go_loud (with_reducible refine (newReader_own A P c _ _ (hp.new HB.out) rfl hl).mono ?_); rintro e1 w1 ⟨b, F, rfl, hr1, hf1, hb1⟩; have T1 := HT.out.new hb1; have O1 := HO.out.new hb1; have B1 := Lib.hid (below_then HB.out hb1); have HF0 : Hid (∀ k, F k → w.heap.size + 1 + 1 ≤ k) := Lib.hid (fun k hk => Nat.le_trans (Nat.le_of_eq (asz2 w _ _).symm) (hf1.lo k hk)); have hbA : w.heap.size + 1 + 1 ≤ b := HF0.out _ hr1.lo; have HN0 : Hid (¬ F w.heap.size) := Lib.hid (fun e9 => by have := HF0.out _ e9; omega))
    | (go_at_call 59; (with_reducible refine (ruvarW F b P 0 _ f a1 e1 rfl HU1.out _ hr1 hl2).mono ?_); rintro e2 w2 ⟨rfl, hr2, hg2⟩; have T2 := T1.grown hg2 (by omega); have O2 := O1.grown hg2 (by omega); have hz2 := T2.lt; have d0 := T2.c0; have d1 := T2.c1; have f0 := T2.fz 0; have f1 := T2.fz 1; have S2 := T2.set0 (.int .u64 f); have Q2 := O2.other (g := w.heap.size) (j := 0) (u := .int .u64 f) (by omega); have q2 := Lib.hid (hr2.setBox (j := 0) (v := .int .u64 f) HN0.out); have B2 := Lib.hid (belowS (g := w.heap.size) (j := 0) (below_reader B1.out hg2 (by omega)) (Nat.le_refl _) (.int .u64 f)); have g0 := S2.c0; have g1 := S2.c1; have tk2 := trivial)
    | (go_at_call 61; (have tk := tk2); clear tk2 tk; (with_reducible refine (errN F b P a1 e1 e1 rfl _ q2.out).mono ?_); rintro r2 w4 ⟨rfl, rfl⟩)
    | (go_at_call 60; (with_reducible refine (refuse_no e1 HE.out _).mono ?_); rintro r2 w4 ⟨rfl, rfl⟩))
  have T5 := S2
  have O5 := Q2
  have BB := B2
  have O6 := (O5.new (below_alloc1 (Below.refl _ _) (Nat.le_refl _) (.cells #[.int .i64 e1] 129))).set (.int .i64 e1)
  have T6 := (T5.new (below_alloc1 (Below.refl _ _) (Nat.le_refl _) (.cells #[.int .i64 e1] 129))).other (g := w.heap.size + 1) (j := 0) (u := .int .i64 e1) (by omega)
  refine leaves_cons (f := 57) (args := #[.pointer (some ⟨w.heap.size + 1, 0, none⟩)]) (by simp) (by simp [go_sem]) ?_
  refine (caught_panic _ _ _ _ O5.c0 (O5.fz 0)).mono ?_
  rintro r6 u6 w6 ⟨rfl, rfl, rfl⟩
  refine leaves_cons (f := 56) (args := #[.pointer (some ⟨w.heap.size + 1, 0, none⟩), .pointer (some ⟨w.heap.size, 0, none⟩)]) (by simp [settle]) (by simp [go_sem]) ?_
  refine (undoB_no _ w.heap.size _ HE.out _ _ _ _ O6.c0 T6).mono ?_
  rintro r7 u7 w7 ⟨rfl, rfl, rfl⟩
  show Leaves _ _ _ _ [] .returning _
  have T7 := (T6.set0 (.int .u64 0)).set1 (.slice none 0 0)
  have O7 := (O6.other (g := w.heap.size) (j := 0) (u := .int .u64 0) (by omega)).other (g := w.heap.size) (j := 1) (u := .slice none 0 0) (by omega)
  refine ⟨_, results_batch rfl _ _ w.heap.size (w.heap.size + 1) _ _ _ rfl rfl T7 O7.c0, rfl, ?_⟩
  exact ((((BB.out.alloc BB.out.size (.cells #[.int .i64 e1] 129)).setCell (by show w.heap.size ≤ w.heap.size + 1; omega) _)).setCell (Nat.le_refl _) _).setCell (Nat.le_refl _) _
set_option maxHeartbeats 400000 in
set_option maxRecDepth 100000 in
theorem batch_n2 (A : Option Addr) (P : List UInt8) (n c : Nat) (w : World) (hp : RB w A c P) (hn : n = P.length) (hl : P.length ≤ 140737488355328) (f a1 m a2 e2 : Nat) (hU1 : uvarS P 0 0 = (f, a1, 0)) (hU2 : uvarS P a1 0 = (m, a2, e2)) (he : e2 ≠ 0) :
    Calls Try.prog 21 #[.slice A n c] w fun r w' => r = .returned (.tuple #[.agg #[.int .u64 0, .slice none 0 0], .int .i64 e2]) ∧ Below w.heap.size w w' := by
  subst hn
  have hmf : ∀ (fn : Fn) (first cap : Array Value) (w : World), (Instr.makeFunc fn first cap).run Try.prog w = .ok (.func fn first cap) w := fun _ _ _ _ => rfl
  have HB := Lib.hid (belowA (below_alloc1 (Below.refl w.heap.size w) (Nat.le_refl _) (.cells #[.int .u64 0, .slice none 0 0] 34)) (.cells #[.int .i64 0] 35))
  have HT := Lib.hid ((Duo.fresh w w.heap.size rfl (.int .u64 0) (.slice none 0 0) 34).new (below_alloc1 (Below.refl _ _) (Nat.le_refl _) (.cells #[.int .i64 0] 35)))
  have HO := Lib.hid (One.fresh (w.alloc (.cells #[.int .u64 0, .slice none 0 0] 34)) (w.heap.size + 1) (asz _ _) (.int .i64 0) 35)
  have hl2 : P.length ≤ 9223372036854775807 := by omega
  have h0 := Lib.hid (show (0 : Int) = ((0 : Nat) : Int) from rfl)
  have HU1 := Lib.hid hU1
  have HU2 := Lib.hid hU2
  have HE : Hid ((e2 : Int) ≠ 0) := Lib.hid (by omega)
  clear hU1 hU2 he
  go_enter_defers Try.func21, Try.ntmps21
  go_wp2_with (first
    | (go_at_call 58; go_loud (with_reducible refine (newReader_own A P c _ _ (hp.new HB.out) rfl hl).mono ?_); rintro e1 w1 ⟨b, F, rfl, hr1, hf1, hb1⟩; have T1 := HT.out.new hb1; have O1 := HO.out.new hb1; have B1 := Lib.hid (below_then HB.out hb1); have HF0 : Hid (∀ k, F k → w.heap.size + 1 + 1 ≤ k) := Lib.hid (fun k hk => Nat.le_trans (Nat.le_of_eq (asz2 w _ _).symm) (hf1.lo k hk)); have hbA : w.heap.size + 1 + 1 ≤ b := HF0.out _ hr1.lo; have HN0 : Hid (¬ F w.heap.size) := Lib.hid (fun e9 => by have := HF0.out _ e9; omega))
    | (go_at_call 59; (with_reducible refine (ruvarW F b P 0 _ f a1 0 rfl HU1.out _ hr1 hl2).mono ?_); rintro e2 w2 ⟨rfl, hr2, hg2⟩; have T2 := T1.grown hg2 (by omega); have O2 := O1.grown hg2 (by omega); have hz2 := T2.lt; have d0 := T2.c0; have d1 := T2.c1; have f0 := T2.fz 0; have f1 := T2.fz 1; have S2 := T2.set0 (.int .u64 f); have Q2 := O2.other (g := w.heap.size) (j := 0) (u := .int .u64 f) (by omega); have q2 := Lib.hid (hr2.setBox (j := 0) (v := .int .u64 f) HN0.out); have B2 := Lib.hid (belowS (g := w.heap.size) (j := 0) (below_reader B1.out hg2 (by omega)) (Nat.le_refl _) (.int .u64 f)); have g0 := S2.c0; have g1 := S2.c1; have tk2 := trivial)
    | (go_at_call 61; (have tk := tk2); clear tk2 tk; (with_reducible refine (errN F b P a1 0 0 h0.out _ q2.out).mono ?_); rintro r2 w4 ⟨rfl, rfl⟩)
    | (go_at_call 59; (with_reducible refine (ruvarW F b P a1 _ m a2 e2 rfl HU2.out _ q2.out hl2).mono ?_); rintro e3 w3 ⟨rfl, hr3, hg3⟩; have T3 := S2.grown hg3 (by omega); have O3 := Q2.grown hg3 (by omega); have hz3 := T3.lt; have z0 := T3.c0; have z1 := T3.c1; have q3 := Lib.hid hr3; have B3 := Lib.hid (below_reader B2.out hg3 (by omega)); have tk3 := trivial)
    | (go_at_call 61; (have tk := tk3); clear tk3 tk; (with_reducible refine (errN F b P a2 e2 e2 rfl _ q3.out).mono ?_); rintro r2 w4 ⟨rfl, rfl⟩)
    | (go_at_call 60; (with_reducible refine (refuse_ok _).mono ?_); rintro r2 w4 ⟨rfl, rfl⟩)
    | (go_at_call 60; (with_reducible refine (refuse_no e2 HE.out _).mono ?_); rintro r2 w4 ⟨rfl, rfl⟩))
  have T5 := T3
  have O5 := O3
  have BB := B3
  have O6 := (O5.new (below_alloc1 (Below.refl _ _) (Nat.le_refl _) (.cells #[.int .i64 e2] 129))).set (.int .i64 e2)
  have T6 := (T5.new (below_alloc1 (Below.refl _ _) (Nat.le_refl _) (.cells #[.int .i64 e2] 129))).other (g := w.heap.size + 1) (j := 0) (u := .int .i64 e2) (by omega)
  refine leaves_cons (f := 57) (args := #[.pointer (some ⟨w.heap.size + 1, 0, none⟩)]) (by simp) (by simp [go_sem]) ?_
  refine (caught_panic _ _ _ _ O5.c0 (O5.fz 0)).mono ?_
  rintro r6 u6 w6 ⟨rfl, rfl, rfl⟩
  refine leaves_cons (f := 56) (args := #[.pointer (some ⟨w.heap.size + 1, 0, none⟩), .pointer (some ⟨w.heap.size, 0, none⟩)]) (by simp [settle]) (by simp [go_sem]) ?_
  refine (undoB_no _ w.heap.size _ HE.out _ _ _ _ O6.c0 T6).mono ?_
  rintro r7 u7 w7 ⟨rfl, rfl, rfl⟩
  show Leaves _ _ _ _ [] .returning _
  have T7 := (T6.set0 (.int .u64 0)).set1 (.slice none 0 0)
  have O7 := (O6.other (g := w.heap.size) (j := 0) (u := .int .u64 0) (by omega)).other (g := w.heap.size) (j := 1) (u := .slice none 0 0) (by omega)
  refine ⟨_, results_batch rfl _ _ w.heap.size (w.heap.size + 1) _ _ _ rfl rfl T7 O7.c0, rfl, ?_⟩
  exact ((((BB.out.alloc BB.out.size (.cells #[.int .i64 e2] 129)).setCell (by show w.heap.size ≤ w.heap.size + 1; omega) _)).setCell (Nat.le_refl _) _).setCell (Nat.le_refl _) _
set_option maxHeartbeats 400000 in
set_option maxRecDepth 100000 in
theorem batch_n3 (A : Option Addr) (P : List UInt8) (n c : Nat) (w : World) (hp : RB w A c P) (hn : n = P.length) (hl : P.length ≤ 140737488355328) (f a1 m a2 : Nat) (hU1 : uvarS P 0 0 = (f, a1, 0)) (hU2 : uvarS P a1 0 = (m, a2, 0)) (hm : 64 < m) :
    Calls Try.prog 21 #[.slice A n c] w fun r w' => r = .returned (.tuple #[.agg #[.int .u64 0, .slice none 0 0], .int .i64 2]) ∧ Below w.heap.size w w' := by
  subst hn
  have hmf : ∀ (fn : Fn) (first cap : Array Value) (w : World), (Instr.makeFunc fn first cap).run Try.prog w = .ok (.func fn first cap) w := fun _ _ _ _ => rfl
  have HB := Lib.hid (belowA (below_alloc1 (Below.refl w.heap.size w) (Nat.le_refl _) (.cells #[.int .u64 0, .slice none 0 0] 34)) (.cells #[.int .i64 0] 35))
  have HT := Lib.hid ((Duo.fresh w w.heap.size rfl (.int .u64 0) (.slice none 0 0) 34).new (below_alloc1 (Below.refl _ _) (Nat.le_refl _) (.cells #[.int .i64 0] 35)))
  have HO := Lib.hid (One.fresh (w.alloc (.cells #[.int .u64 0, .slice none 0 0] 34)) (w.heap.size + 1) (asz _ _) (.int .i64 0) 35)
  have hl2 : P.length ≤ 9223372036854775807 := by omega
  have h0 := Lib.hid (show (0 : Int) = ((0 : Nat) : Int) from rfl)
  have HU1 := Lib.hid hU1
  have HU2 := Lib.hid hU2
  have HE : Hid ((2 : Int) ≠ 0) := Lib.hid (by decide)
  clear hU1 hU2
  go_enter_defers Try.func21, Try.ntmps21
  go_wp2_with (first
    | (go_at_call 58; go_loud (with_reducible refine (newReader_own A P c _ _ (hp.new HB.out) rfl hl).mono ?_); rintro e1 w1 ⟨b, F, rfl, hr1, hf1, hb1⟩; have T1 := HT.out.new hb1; have O1 := HO.out.new hb1; have B1 := Lib.hid (below_then HB.out hb1); have HF0 : Hid (∀ k, F k → w.heap.size + 1 + 1 ≤ k) := Lib.hid (fun k hk => Nat.le_trans (Nat.le_of_eq (asz2 w _ _).symm) (hf1.lo k hk)); have hbA : w.heap.size + 1 + 1 ≤ b := HF0.out _ hr1.lo; have HN0 : Hid (¬ F w.heap.size) := Lib.hid (fun e9 => by have := HF0.out _ e9; omega))
    | (go_at_call 59; (with_reducible refine (ruvarW F b P 0 _ f a1 0 rfl HU1.out _ hr1 hl2).mono ?_); rintro e2 w2 ⟨rfl, hr2, hg2⟩; have T2 := T1.grown hg2 (by omega); have O2 := O1.grown hg2 (by omega); have hz2 := T2.lt; have d0 := T2.c0; have d1 := T2.c1; have f0 := T2.fz 0; have f1 := T2.fz 1; have S2 := T2.set0 (.int .u64 f); have Q2 := O2.other (g := w.heap.size) (j := 0) (u := .int .u64 f) (by omega); have q2 := Lib.hid (hr2.setBox (j := 0) (v := .int .u64 f) HN0.out); have B2 := Lib.hid (belowS (g := w.heap.size) (j := 0) (below_reader B1.out hg2 (by omega)) (Nat.le_refl _) (.int .u64 f)); have g0 := S2.c0; have g1 := S2.c1; have tk2 := trivial)
    | (go_at_call 61; (have tk := tk2); clear tk2 tk; (with_reducible refine (errN F b P a1 0 0 h0.out _ q2.out).mono ?_); rintro r2 w4 ⟨rfl, rfl⟩)
    | (go_at_call 59; (with_reducible refine (ruvarW F b P a1 _ m a2 0 rfl HU2.out _ q2.out hl2).mono ?_); rintro e3 w3 ⟨rfl, hr3, hg3⟩; have T3 := S2.grown hg3 (by omega); have O3 := Q2.grown hg3 (by omega); have hz3 := T3.lt; have z0 := T3.c0; have z1 := T3.c1; have q3 := Lib.hid hr3; have B3 := Lib.hid (below_reader B2.out hg3 (by omega)); have tk3 := trivial)
    | (go_at_call 61; (have tk := tk3); clear tk3 tk; (with_reducible refine (errN F b P a2 0 0 h0.out _ q3.out).mono ?_); rintro r2 w4 ⟨rfl, rfl⟩)
    | (go_at_call 60; (with_reducible refine (refuse_ok _).mono ?_); rintro r2 w4 ⟨rfl, rfl⟩)
    | (go_at_call 60; (with_reducible refine (refuse_no 2 HE.out _).mono ?_); rintro r2 w4 ⟨rfl, rfl⟩))
  have T5 := T3
  have O5 := O3
  have BB := B3
  have O6 := (O5.new (below_alloc1 (Below.refl _ _) (Nat.le_refl _) (.cells #[.int .i64 2] 129))).set (.int .i64 2)
  have T6 := (T5.new (below_alloc1 (Below.refl _ _) (Nat.le_refl _) (.cells #[.int .i64 2] 129))).other (g := w.heap.size + 1) (j := 0) (u := .int .i64 2) (by omega)
  refine leaves_cons (f := 57) (args := #[.pointer (some ⟨w.heap.size + 1, 0, none⟩)]) (by simp) (by simp [go_sem]) ?_
  refine (caught_panic _ _ _ _ O5.c0 (O5.fz 0)).mono ?_
  rintro r6 u6 w6 ⟨rfl, rfl, rfl⟩
  refine leaves_cons (f := 56) (args := #[.pointer (some ⟨w.heap.size + 1, 0, none⟩), .pointer (some ⟨w.heap.size, 0, none⟩)]) (by simp [settle]) (by simp [go_sem]) ?_
  refine (undoB_no _ w.heap.size _ HE.out _ _ _ _ O6.c0 T6).mono ?_
  rintro r7 u7 w7 ⟨rfl, rfl, rfl⟩
  show Leaves _ _ _ _ [] .returning _
  have T7 := (T6.set0 (.int .u64 0)).set1 (.slice none 0 0)
  have O7 := (O6.other (g := w.heap.size) (j := 0) (u := .int .u64 0) (by omega)).other (g := w.heap.size) (j := 1) (u := .slice none 0 0) (by omega)
  refine ⟨_, results_batch rfl _ _ w.heap.size (w.heap.size + 1) _ _ _ rfl rfl T7 O7.c0, rfl, ?_⟩
  exact ((((BB.out.alloc BB.out.size (.cells #[.int .i64 2] 129)).setCell (by show w.heap.size ≤ w.heap.size + 1; omega) _)).setCell (Nat.le_refl _) _).setCell (Nat.le_refl _) _
set_option maxHeartbeats 400000 in
set_option maxRecDepth 100000 in
theorem batch_n4a (A : Option Addr) (P : List UInt8) (n c : Nat) (w : World) (hp : RB w A c P) (hn : n = P.length) (hl : P.length ≤ 140737488355328) (f a1 m a2 : Nat) (hU1 : uvarS P 0 0 = (f, a1, 0)) (hU2 : uvarS P a1 0 = (m, a2, 0)) (hmz : m = 0) :
    Calls Try.prog 21 #[.slice A n c] w fun r w' => r = .returned (.tuple #[.agg #[.int .u64 0, .slice none 0 0], .int .i64 3]) ∧ Below w.heap.size w w' := by
  subst hn
  have hmf : ∀ (fn : Fn) (first cap : Array Value) (w : World), (Instr.makeFunc fn first cap).run Try.prog w = .ok (.func fn first cap) w := fun _ _ _ _ => rfl
  have HB := Lib.hid (belowA (below_alloc1 (Below.refl w.heap.size w) (Nat.le_refl _) (.cells #[.int .u64 0, .slice none 0 0] 34)) (.cells #[.int .i64 0] 35))
  have HT := Lib.hid ((Duo.fresh w w.heap.size rfl (.int .u64 0) (.slice none 0 0) 34).new (below_alloc1 (Below.refl _ _) (Nat.le_refl _) (.cells #[.int .i64 0] 35)))
  have HO := Lib.hid (One.fresh (w.alloc (.cells #[.int .u64 0, .slice none 0 0] 34)) (w.heap.size + 1) (asz _ _) (.int .i64 0) 35)
  have hl2 : P.length ≤ 9223372036854775807 := by omega
  have h0 := Lib.hid (show (0 : Int) = ((0 : Nat) : Int) from rfl)
  have HU1 := Lib.hid hU1
  have HU2 := Lib.hid hU2
  have HE : Hid ((3 : Int) ≠ 0) := Lib.hid (by decide)
  clear hU1 hU2
  go_enter_defers Try.func21, Try.ntmps21
  go_wp2_with (first
    | (go_at_call 58; go_loud (with_reducible refine (newReader_own A P c _ _ (hp.new HB.out) rfl hl).mono ?_); rintro e1 w1 ⟨b, F, rfl, hr1, hf1, hb1⟩; have T1 := HT.out.new hb1; have O1 := HO.out.new hb1; have B1 := Lib.hid (below_then HB.out hb1); have HF0 : Hid (∀ k, F k → w.heap.size + 1 + 1 ≤ k) := Lib.hid (fun k hk => Nat.le_trans (Nat.le_of_eq (asz2 w _ _).symm) (hf1.lo k hk)); have hbA : w.heap.size + 1 + 1 ≤ b := HF0.out _ hr1.lo; have HN0 : Hid (¬ F w.heap.size) := Lib.hid (fun e9 => by have := HF0.out _ e9; omega))
    | (go_at_call 59; (with_reducible refine (ruvarW F b P 0 _ f a1 0 rfl HU1.out _ hr1 hl2).mono ?_); rintro e2 w2 ⟨rfl, hr2, hg2⟩; have T2 := T1.grown hg2 (by omega); have O2 := O1.grown hg2 (by omega); have hz2 := T2.lt; have d0 := T2.c0; have d1 := T2.c1; have f0 := T2.fz 0; have f1 := T2.fz 1; have S2 := T2.set0 (.int .u64 f); have Q2 := O2.other (g := w.heap.size) (j := 0) (u := .int .u64 f) (by omega); have q2 := Lib.hid (hr2.setBox (j := 0) (v := .int .u64 f) HN0.out); have B2 := Lib.hid (belowS (g := w.heap.size) (j := 0) (below_reader B1.out hg2 (by omega)) (Nat.le_refl _) (.int .u64 f)); have g0 := S2.c0; have g1 := S2.c1; have tk2 := trivial)
    | (go_at_call 61; (have tk := tk2); clear tk2 tk; (with_reducible refine (errN F b P a1 0 0 h0.out _ q2.out).mono ?_); rintro r2 w4 ⟨rfl, rfl⟩)
    | (go_at_call 59; (with_reducible refine (ruvarW F b P a1 _ m a2 0 rfl HU2.out _ q2.out hl2).mono ?_); rintro e3 w3 ⟨rfl, hr3, hg3⟩; have T3 := S2.grown hg3 (by omega); have O3 := Q2.grown hg3 (by omega); have hz3 := T3.lt; have z0 := T3.c0; have z1 := T3.c1; have q3 := Lib.hid hr3; have B3 := Lib.hid (below_reader B2.out hg3 (by omega)); have tk3 := trivial)
    | (go_at_call 61; (have tk := tk3); clear tk3 tk; (with_reducible refine (errN F b P a2 0 0 h0.out _ q3.out).mono ?_); rintro r2 w4 ⟨rfl, rfl⟩)
    | (go_at_call 60; (with_reducible refine (refuse_ok _).mono ?_); rintro r2 w4 ⟨rfl, rfl⟩)
    | (go_at_call 60; (with_reducible refine (refuse_no 3 HE.out _).mono ?_); rintro r2 w4 ⟨rfl, rfl⟩))
  have T5 := T3
  have O5 := O3
  have BB := B3
  have O6 := (O5.new (below_alloc1 (Below.refl _ _) (Nat.le_refl _) (.cells #[.int .i64 3] 129))).set (.int .i64 3)
  have T6 := (T5.new (below_alloc1 (Below.refl _ _) (Nat.le_refl _) (.cells #[.int .i64 3] 129))).other (g := w.heap.size + 1) (j := 0) (u := .int .i64 3) (by omega)
  refine leaves_cons (f := 57) (args := #[.pointer (some ⟨w.heap.size + 1, 0, none⟩)]) (by simp) (by simp [go_sem]) ?_
  refine (caught_panic _ _ _ _ O5.c0 (O5.fz 0)).mono ?_
  rintro r6 u6 w6 ⟨rfl, rfl, rfl⟩
  refine leaves_cons (f := 56) (args := #[.pointer (some ⟨w.heap.size + 1, 0, none⟩), .pointer (some ⟨w.heap.size, 0, none⟩)]) (by simp [settle]) (by simp [go_sem]) ?_
  refine (undoB_no _ w.heap.size _ HE.out _ _ _ _ O6.c0 T6).mono ?_
  rintro r7 u7 w7 ⟨rfl, rfl, rfl⟩
  show Leaves _ _ _ _ [] .returning _
  have T7 := (T6.set0 (.int .u64 0)).set1 (.slice none 0 0)
  have O7 := (O6.other (g := w.heap.size) (j := 0) (u := .int .u64 0) (by omega)).other (g := w.heap.size) (j := 1) (u := .slice none 0 0) (by omega)
  refine ⟨_, results_batch rfl _ _ w.heap.size (w.heap.size + 1) _ _ _ rfl rfl T7 O7.c0, rfl, ?_⟩
  exact ((((BB.out.alloc BB.out.size (.cells #[.int .i64 3] 129)).setCell (by show w.heap.size ≤ w.heap.size + 1; omega) _)).setCell (Nat.le_refl _) _).setCell (Nat.le_refl _) _
set_option maxHeartbeats 400000 in
set_option maxRecDepth 100000 in
theorem batch_n4b (A : Option Addr) (P : List UInt8) (n c : Nat) (w : World) (hp : RB w A c P) (hn : n = P.length) (hl : P.length ≤ 140737488355328) (f a1 m a2 : Nat) (hU1 : uvarS P 0 0 = (f, a1, 0)) (hU2 : uvarS P a1 0 = (m, a2, 0)) (hf : f ≤ 18446744073709551615) (hm : m ≤ 64) (hmz : ¬ m = 0) (hb : 18446744073709551616 ≤ f + m) :
    Calls Try.prog 21 #[.slice A n c] w fun r w' => r = .returned (.tuple #[.agg #[.int .u64 0, .slice none 0 0], .int .i64 3]) ∧ Below w.heap.size w w' := by
  subst hn
  have hmf : ∀ (fn : Fn) (first cap : Array Value) (w : World), (Instr.makeFunc fn first cap).run Try.prog w = .ok (.func fn first cap) w := fun _ _ _ _ => rfl
  have HB := Lib.hid (belowA (below_alloc1 (Below.refl w.heap.size w) (Nat.le_refl _) (.cells #[.int .u64 0, .slice none 0 0] 34)) (.cells #[.int .i64 0] 35))
  have HT := Lib.hid ((Duo.fresh w w.heap.size rfl (.int .u64 0) (.slice none 0 0) 34).new (below_alloc1 (Below.refl _ _) (Nat.le_refl _) (.cells #[.int .i64 0] 35)))
  have HO := Lib.hid (One.fresh (w.alloc (.cells #[.int .u64 0, .slice none 0 0] 34)) (w.heap.size + 1) (asz _ _) (.int .i64 0) 35)
  have hl2 : P.length ≤ 9223372036854775807 := by omega
  have h0 := Lib.hid (show (0 : Int) = ((0 : Nat) : Int) from rfl)
  have HU1 := Lib.hid hU1
  have HU2 := Lib.hid hU2
  have HE : Hid ((3 : Int) ≠ 0) := Lib.hid (by decide)
  have HFT := Lib.hid (show decide (f + m < 18446744073709551616) = false by rw [decide_eq_false_iff_not]; omega)
  clear hU1 hU2 hb
  go_enter_defers Try.func21, Try.ntmps21
  go_wp2_with (first
    | (go_at_call 58; go_loud (with_reducible refine (newReader_own A P c _ _ (hp.new HB.out) rfl hl).mono ?_); rintro e1 w1 ⟨b, F, rfl, hr1, hf1, hb1⟩; have T1 := HT.out.new hb1; have O1 := HO.out.new hb1; have B1 := Lib.hid (below_then HB.out hb1); have HF0 : Hid (∀ k, F k → w.heap.size + 1 + 1 ≤ k) := Lib.hid (fun k hk => Nat.le_trans (Nat.le_of_eq (asz2 w _ _).symm) (hf1.lo k hk)); have hbA : w.heap.size + 1 + 1 ≤ b := HF0.out _ hr1.lo; have HN0 : Hid (¬ F w.heap.size) := Lib.hid (fun e9 => by have := HF0.out _ e9; omega))
    | (go_at_call 59; (with_reducible refine (ruvarW F b P 0 _ f a1 0 rfl HU1.out _ hr1 hl2).mono ?_); rintro e2 w2 ⟨rfl, hr2, hg2⟩; have T2 := T1.grown hg2 (by omega); have O2 := O1.grown hg2 (by omega); have hz2 := T2.lt; have d0 := T2.c0; have d1 := T2.c1; have f0 := T2.fz 0; have f1 := T2.fz 1; have S2 := T2.set0 (.int .u64 f); have Q2 := O2.other (g := w.heap.size) (j := 0) (u := .int .u64 f) (by omega); have q2 := Lib.hid (hr2.setBox (j := 0) (v := .int .u64 f) HN0.out); have B2 := Lib.hid (belowS (g := w.heap.size) (j := 0) (below_reader B1.out hg2 (by omega)) (Nat.le_refl _) (.int .u64 f)); have g0 := S2.c0; have g1 := S2.c1; have tk2 := trivial)
    | (go_at_call 61; (have tk := tk2); clear tk2 tk; (with_reducible refine (errN F b P a1 0 0 h0.out _ q2.out).mono ?_); rintro r2 w4 ⟨rfl, rfl⟩)
    | (go_at_call 59; (with_reducible refine (ruvarW F b P a1 _ m a2 0 rfl HU2.out _ q2.out hl2).mono ?_); rintro e3 w3 ⟨rfl, hr3, hg3⟩; have T3 := S2.grown hg3 (by omega); have O3 := Q2.grown hg3 (by omega); have hz3 := T3.lt; have z0 := T3.c0; have z1 := T3.c1; have q3 := Lib.hid hr3; have B3 := Lib.hid (below_reader B2.out hg3 (by omega)); have tk3 := trivial)
    | (go_at_call 61; (have tk := tk3); clear tk3 tk; (with_reducible refine (errN F b P a2 0 0 h0.out _ q3.out).mono ?_); rintro r2 w4 ⟨rfl, rfl⟩)
    | (go_at_call 60; (with_reducible refine (refuse_ok _).mono ?_); rintro r2 w4 ⟨rfl, rfl⟩)
    | (go_at_call 46; go_loud (with_reducible refine (efits_calls f m _ rfl hf (by omega) _ false HFT.out).mono ?_); rintro r5 w5 ⟨rfl, rfl⟩)
    | (go_at_call 60; (with_reducible refine (refuse_no 3 HE.out _).mono ?_); rintro r2 w4 ⟨rfl, rfl⟩))
  have T5 := T3
  have O5 := O3
  have BB := B3
  have O6 := (O5.new (below_alloc1 (Below.refl _ _) (Nat.le_refl _) (.cells #[.int .i64 3] 129))).set (.int .i64 3)
  have T6 := (T5.new (below_alloc1 (Below.refl _ _) (Nat.le_refl _) (.cells #[.int .i64 3] 129))).other (g := w.heap.size + 1) (j := 0) (u := .int .i64 3) (by omega)
  refine leaves_cons (f := 57) (args := #[.pointer (some ⟨w.heap.size + 1, 0, none⟩)]) (by simp) (by simp [go_sem]) ?_
  refine (caught_panic _ _ _ _ O5.c0 (O5.fz 0)).mono ?_
  rintro r6 u6 w6 ⟨rfl, rfl, rfl⟩
  refine leaves_cons (f := 56) (args := #[.pointer (some ⟨w.heap.size + 1, 0, none⟩), .pointer (some ⟨w.heap.size, 0, none⟩)]) (by simp [settle]) (by simp [go_sem]) ?_
  refine (undoB_no _ w.heap.size _ HE.out _ _ _ _ O6.c0 T6).mono ?_
  rintro r7 u7 w7 ⟨rfl, rfl, rfl⟩
  show Leaves _ _ _ _ [] .returning _
  have T7 := (T6.set0 (.int .u64 0)).set1 (.slice none 0 0)
  have O7 := (O6.other (g := w.heap.size) (j := 0) (u := .int .u64 0) (by omega)).other (g := w.heap.size) (j := 1) (u := .slice none 0 0) (by omega)
  refine ⟨_, results_batch rfl _ _ w.heap.size (w.heap.size + 1) _ _ _ rfl rfl T7 O7.c0, rfl, ?_⟩
  exact ((((BB.out.alloc BB.out.size (.cells #[.int .i64 3] 129)).setCell (by show w.heap.size ≤ w.heap.size + 1; omega) _)).setCell (Nat.le_refl _) _).setCell (Nat.le_refl _) _
theorem clip_calls (A : Option Addr) (n c : Nat) (hc : n ≤ c) (_hn : n ≤ 9223372036854775807) (w : World) :
    Calls Try.prog 64 #[.slice A n c] w fun e w' => e = .returned (.slice A n n) ∧ w = w' := by
  go_enter Try.func64, Try.ntmps64
  go_wp2
  go_ret
  exact ⟨rfl, rfl⟩
theorem EL.cap {w : World} {base n c : Nat} {A : Option Addr} {es : List EnX} (h : EL w base (.slice A n c) n es) : n ≤ c := by
  rcases h.row.2 with ⟨h1, hn⟩ | ⟨g, cap, cur, e, hb, hh, hn, _⟩
  · omega
  · injection e with e1 e2 e3
    omega
theorem entS_k (P : List UInt8) (at_ : Nat) (h : (entS P at_).e = 0) : (entS P at_).v.k = 1 ∨ (entS P at_).v.k = 2 := by
  unfold entS entNo at h ⊢
  split
  · rename_i h1; rw [if_pos h1] at h; exact absurd h h1
  · rename_i h1
    rw [if_neg h1] at h
    split
    · rename_i h2; rw [if_pos h2] at h; exact absurd h (by decide)
    · rename_i h2
      rw [if_neg h2] at h
      split
      · rename_i h3; rw [if_pos h3] at h; exact absurd h h3
      · rename_i h3
        rw [if_neg h3] at h
        split
        · rename_i h4
          rw [if_pos h4] at h
          split
          · rename_i h5; rw [if_pos h5] at h; exact absurd h h5
          · exact .inl rfl
        · exact .inr rfl
theorem tri_at (w : World) (x y z : Value) (t : TypeId) : (w.alloc (.cells #[x, y, z] t)).cell? ((⟨w.heap.size, 0, none⟩ : Addr).add 0) = some x ∧ (w.alloc (.cells #[x, y, z] t)).cell? ((⟨w.heap.size, 0, none⟩ : Addr).add 1) = some y ∧ (w.alloc (.cells #[x, y, z] t)).cell? ((⟨w.heap.size, 0, none⟩ : Addr).add 2) = some z := by
  have T := Trio.fresh w w.heap.size rfl x y z t
  have e : ∀ j, (⟨w.heap.size, 0, none⟩ : Addr).add j = ⟨w.heap.size, j, none⟩ := fun j => by unfold Addr.add; split <;> simp_all
  rw [e, e, e]
  exact ⟨T.c0, T.c1, T.c2⟩
theorem Rd.far {w w' : World} {F : Nat → Prop} {b : Nat} {P : List UInt8} {at_ e : Nat} {row : Option Nat} (h : Rd w F b P at_ e) (hg : w.grownBy w' row) (hne : ∀ k, F k → row ≠ some k) : Rd w' F b P at_ e :=
  h.keep (hg.block b h.bLt (fun e9 => hne b h.lo e9.symm)) fun k hk _ hlt => hg.block k hlt (fun e9 => hne k hk e9.symm)
theorem Duo.far {w w' : World} {b : Nat} {x y : Value} {row : Option Nat} (h : Duo w b x y) (hg : w.grownBy w' row) (hne : row ≠ some b) : Duo w' b x y := h.keep (hg.block b h.lt (fun e9 => hne e9.symm))
theorem One.far {w w' : World} {b : Nat} {x : Value} {row : Option Nat} (h : One w b x) (hg : w.grownBy w' row) (hne : row ≠ some b) : One w' b x := h.keep (hg.block b h.lt (fun e9 => hne e9.symm))
set_option maxHeartbeats 1000000 in
set_option maxRecDepth 100000 in
theorem batch_main (A : Option Addr) (P : List UInt8) (n c : Nat) (w : World) (hp : RB w A c P) (hn : n = P.length) (hl : P.length ≤ 140737488355328) (f a1 m a2 : Nat) (hU1 : uvarS P 0 0 = (f, a1, 0)) (hU2 : uvarS P a1 0 = (m, a2, 0)) (hf : f ≤ 18446744073709551615) (hm : m ≤ 64) (hmz : ¬ m = 0) (hb : f + m < 18446744073709551616) (t : Bat) (ht : batF P f m a2 = t) :
    Calls Try.prog 21 #[.slice A n c] w fun r w' => ∃ A' c', r = .returned (.tuple #[.agg #[.int .u64 t.f, .slice A' t.l.length c'], .int .i64 t.e]) ∧ BatK w w' A' t.l.length t.l := by
  subst hn
  have hmf : ∀ (fn : Fn) (first cap : Array Value) (w : World), (Instr.makeFunc fn first cap).run Try.prog w = .ok (.func fn first cap) w := fun _ _ _ _ => rfl
  have HB := Lib.hid (belowA (below_alloc1 (Below.refl w.heap.size w) (Nat.le_refl _) (.cells #[.int .u64 0, .slice none 0 0] 34)) (.cells #[.int .i64 0] 35))
  have HT := Lib.hid ((Duo.fresh w w.heap.size rfl (.int .u64 0) (.slice none 0 0) 34).new (below_alloc1 (Below.refl _ _) (Nat.le_refl _) (.cells #[.int .i64 0] 35)))
  have HO := Lib.hid (One.fresh (w.alloc (.cells #[.int .u64 0, .slice none 0 0] 34)) (w.heap.size + 1) (asz _ _) (.int .i64 0) 35)
  have hl2 : P.length ≤ 9223372036854775807 := by omega
  have h0 := Lib.hid (show (0 : Int) = ((0 : Nat) : Int) from rfl)
  have HU1 := Lib.hid hU1
  have HU2 := Lib.hid hU2
  have HBF := Lib.hid ht
  have hb64 : decide ((64 : Int) < (m : Int)) = false := by rw [decide_eq_false_iff_not]; omega
  have hb00 : ((m : Int) == 0) = false := by rw [beq_eq_false_iff_ne]; omega
  have HFT := Lib.hid (show decide (f + m < 18446744073709551616) = true by rw [decide_eq_true_eq]; omega)
  clear hU1 hU2 hb ht
  go_enter_defers Try.func21, Try.ntmps21
  go_wp2_with (first
    | (go_at_call 58; go_loud (with_reducible refine (newReader_own A P c _ _ (hp.new HB.out) rfl hl).mono ?_); rintro e1 w1 ⟨b, F, rfl, hr1, hf1, hb1⟩; have T1 := HT.out.new hb1; have O1 := HO.out.new hb1; have B1 := Lib.hid (below_then HB.out hb1); have HF0 : Hid (∀ k, F k → w.heap.size + 1 + 1 ≤ k) := Lib.hid (fun k hk => Nat.le_trans (Nat.le_of_eq (asz2 w _ _).symm) (hf1.lo k hk)); have hbA : w.heap.size + 1 + 1 ≤ b := HF0.out _ hr1.lo; have HN0 : Hid (¬ F w.heap.size) := Lib.hid (fun e9 => by have := HF0.out _ e9; omega))
    | (go_at_call 59; (with_reducible refine (ruvarW F b P 0 _ f a1 0 rfl HU1.out _ hr1 hl2).mono ?_); rintro e2 w2 ⟨rfl, hr2, hg2⟩; have T2 := T1.grown hg2 (by omega); have O2 := O1.grown hg2 (by omega); have hz2 := T2.lt; have d0 := T2.c0; have d1 := T2.c1; have f0 := T2.fz 0; have f1 := T2.fz 1; have S2 := T2.set0 (.int .u64 f); have Q2 := O2.other (g := w.heap.size) (j := 0) (u := .int .u64 f) (by omega); have q2 := Lib.hid (hr2.setBox (j := 0) (v := .int .u64 f) HN0.out); have B2 := Lib.hid (belowS (g := w.heap.size) (j := 0) (below_reader B1.out hg2 (by omega)) (Nat.le_refl _) (.int .u64 f)); have g0 := S2.c0; have g1 := S2.c1; have tk2 := trivial)
    | (go_at_call 61; (have tk := tk2); clear tk2 tk; (with_reducible refine (errN F b P a1 0 0 h0.out _ q2.out).mono ?_); rintro r2 w4 ⟨rfl, rfl⟩)
    | (go_at_call 59; (with_reducible refine (ruvarW F b P a1 _ m a2 0 rfl HU2.out _ q2.out hl2).mono ?_); rintro e3 w3 ⟨rfl, hr3, hg3⟩; have T3 := S2.grown hg3 (by omega); have O3 := Q2.grown hg3 (by omega); have hz3 := T3.lt; have z0 := T3.c0; have z1 := T3.c1; have q3 := Lib.hid hr3; have B3 := Lib.hid (below_reader B2.out hg3 (by omega)); have tk3 := trivial)
    | (go_at_call 61; (have tk := tk3); clear tk3 tk; (with_reducible refine (errN F b P a2 0 0 h0.out _ q3.out).mono ?_); rintro r2 w4 ⟨rfl, rfl⟩)
    | (go_at_call 60; (with_reducible refine (refuse_ok _).mono ?_); rintro r2 w4 ⟨rfl, rfl⟩)
    | (go_at_call 46; go_loud (with_reducible refine (efits_calls f m _ rfl hf (by omega) _ true HFT.out).mono ?_); rintro r5 w5 ⟨rfl, rfl⟩))
  go_loopw [35] (fun iv wr => ∃ (j at_ : Nat) (es : List EnX) (A1 : Option Addr) (c1 : Nat), j ≤ m ∧ iv = .int .u64 j ∧ Duo wr w.heap.size (.int .u64 f) (.slice A1 j c1) ∧ One wr (w.heap.size + 1) (.int .i64 0) ∧ EL wr w1.heap.size (.slice A1 j c1) j es ∧ SepR wr w1.heap.size (.slice A1 j c1) es ∧ Rd wr F b P at_ 0 ∧ Below w.heap.size w wr ∧ w1.heap.size ≤ wr.heap.size ∧ Hid (entsS P m a2 = ⟨(entsS P (m - j) at_).e, ensOf es ++ (entsS P (m - j) at_).l, (entsS P (m - j) at_).at_⟩)) (fun iv _ => m - (intOf iv).toNat)
  case atStart => exact ⟨0, a2, [], none, 0, Nat.zero_le _, rfl, T3, O3, EL.nil _ _, SepR.nil _ _ _, q3.out, B3.out, by have h1 := hg2.size; have h2 := hg3.size; simp [World.setCell] at h2; omega, Lib.hid (by simp [ensOf])⟩
  case round =>
    obtain ⟨j, at_, es, A1, c1, hj, rfl, HTT, HOO, HEL, HSP, HRd, HBB, hw1, HEQ⟩ := hrel
    have d0 := HTT.c0
    have d1 := HTT.c1
    have f0 := HTT.fz 0
    have f1 := HTT.fz 1
    by_cases hlt : j < m
    · have hsucc : m - j = (m - (j + 1)) + 1 := by omega
      have hFlt : ∀ k, F k → k < wr.heap.size := fun k hk => Nat.lt_of_lt_of_le (hf1.hi k hk) hw1
      have hA0 : w.heap.size + 1 < w1.heap.size := O1.lt
      have HFL := Lib.hid hFlt
      clear hFlt
      obtain ⟨tt, htt⟩ : ∃ tt, tt = entS P at_ := ⟨_, rfl⟩
      have HKK : Hid (tt.e = 0 → tt.v.k ≤ 255) := Lib.hid (fun h => by rw [htt] at h ⊢; rcases entS_k P at_ h with e | e <;> omega)
      have HTT2 := Lib.hid htt.symm
      rw [hsucc, entsS, ← htt] at HEQ
      clear htt
      by_cases he : tt.e = 0
      · have HE0 := Lib.hid he
        have hEQ := HEQ.out
        rw [if_neg (by rw [he]; decide)] at hEQ
        have HEQ := Lib.hid hEQ
        clear he hEQ hsucc
        have HROW := Lib.hid HEL.lt
        go_wp2
        refine wp_region_noPanic ?_
        go_region_law (first
          | ((go_simp; go_at_call 62; refine (etake_ok F b P at_ _ (HRd.new (below_drew _ _)) HFL.out hl tt HTT2.out HE0.out).mono ?_; rintro r5 w5 ⟨a, rfl, hK, hV, hr5, hw5, hkv⟩; have SP5 := Lib.hid (((HSP.new (below_drew _ _)).stepE hw5.step (fun k hk => hf1.hi k hk)).push (x := (tt.v, a)) (m := wr.heap.size) (fun u hu k hk => (HSP.sep.lt u hu k hk).2) (fun k e9 => (HROW.out k e9).2) hK hV hw1 hkv); have T5 := (HTT.new (below_drew _ _)).stepE hw5.step HN0.out; have O5 := (HOO.new (below_drew _ _)).stepE hw5.step (fun e9 => by have := HF0.out _ e9; omega); have L5 := Lib.hid ((HEL.new (below_drew _ _)).stepE hw5.step (fun k hk => hf1.hi k hk)); have hz5 := T5.lt; have x0 := T5.c0; have x1 := T5.c1; have B5 := Lib.hid ((HBB.drew).trans (hw5.step.below (B := w.heap.size) HBB.size (fun k hk => by have := HF0.out _ hk; omega))); have E5 := Lib.hid ((EnOk.mk (HKK.out HE0.out) hK.rb hV.rb : EnOk w5 tt.v a).new (below_alloc1 (Below.refl _ _) (Nat.le_refl _) (.cells #[.int .u8 tt.v.k, .slice a.KA tt.v.K.length a.kc, .slice a.VA tt.v.V.length a.vc] 26))); have R5 : Hid (FarE w1.heap.size (.slice A1 j c1) (tt.v, a)) := Lib.hid ⟨fun ad e hp => ⟨Nat.le_trans hw1 (hK.lo ad e hp), fun e9 => by have h8 := (HROW.out _ e9).2; have h9 : wr.heap.size ≤ ad.block := hK.lo ad e hp; omega⟩, fun ad e hp => ⟨Nat.le_trans hw1 (hV.lo ad e hp), fun e9 => by have h8 := (HROW.out _ e9).2; have h9 : wr.heap.size ≤ ad.block := hV.lo ad e hp; omega⟩⟩; have s5 := hw5.step.size))
          | (refine step_appendEK ent rfl (.tmp 38) (.tmp 41) rfl w1.heap.size (.slice A1 j c1) j es rfl (L5.out.new (below_alloc1 (Below.refl _ _) (Nat.le_refl _) (.cells #[.int .u8 tt.v.k, .slice a.KA tt.v.K.length a.kc, .slice a.VA tt.v.V.length a.vc] 26))) (tt.v, a) ⟨w5.heap.size, 0, Option.none⟩ rfl (tri_at w5 _ _ _ _).1 (tri_at w5 _ _ _ _).2.1 (tri_at w5 _ _ _ _).2.2 E5.out R5.out (by omega) (by rw [asz]; have h9 : wr.heap.size ≤ w5.heap.size := s5; omega) fun A' c' w7 hl7 hg7 ho7 => ?_; have SP7 := Lib.hid ((SP5.out.new (below_alloc1 (Below.refl _ _) (Nat.le_refl _) (.cells #[.int .u8 tt.v.k, .slice a.KA tt.v.K.length a.kc, .slice a.VA tt.v.V.length a.vc] 26))).grown hg7 ho7); have T7 := (T5.new (below_alloc1 (Below.refl _ _) (Nat.le_refl _) (.cells #[.int .u8 tt.v.k, .slice a.KA tt.v.K.length a.kc, .slice a.VA tt.v.V.length a.vc] 26))).far hg7 (fun e9 => by have := HROW.out _ e9; omega); have O7 := (O5.new (below_alloc1 (Below.refl _ _) (Nat.le_refl _) (.cells #[.int .u8 tt.v.k, .slice a.KA tt.v.K.length a.kc, .slice a.VA tt.v.V.length a.vc] 26))).far hg7 (fun e9 => by have := HROW.out _ e9; omega); have y0 := T7.c0; have y1 := T7.c1; have g1 := T7.fz 1; have L7 := Lib.hid hl7; have q7 := Lib.hid ((hr5.new (below_alloc1 (Below.refl _ _) (Nat.le_refl _) (.cells #[.int .u8 tt.v.k, .slice a.KA tt.v.K.length a.kc, .slice a.VA tt.v.V.length a.vc] 26))).far hg7 (fun k hk e9 => by have := HROW.out _ e9; have := hf1.hi k hk; omega)); have B7 := Lib.hid ((belowA B5.out (.cells #[.int .u8 tt.v.k, .slice a.KA tt.v.K.length a.kc, .slice a.VA tt.v.V.length a.vc] 26)).grown hg7 (belowA B5.out (.cells #[.int .u8 tt.v.k, .slice a.KA tt.v.K.length a.kc, .slice a.VA tt.v.V.length a.vc] 26)).size (fun k e9 => by have := HROW.out _ e9; omega)); have z7 := hg7.size))
        all_goals refine NoPanic.normal ?_
        all_goals
          go_wp2
          go_roundw
          case rel => exact ⟨j + 1, tt.at_, es ++ [(tt.v, a)], A', c', by omega, by go_num, T7.set1 _, O7.other (by omega), L7.out.setLow (by omega), SP7.out.setLow (by omega), q7.out.setBox HN0.out, belowS (g := w.heap.size) B7.out (Nat.le_refl _) _, by have h8 : wr.heap.size ≤ w5.heap.size := s5; have h9 := z7; rw [asz] at h9; simp [World.setCell]; omega, Lib.hid (by rw [HEQ.out]; simp [ensOf])⟩
          case measure => simp [intOf]; omega
      · have hEQ := HEQ.out
        rw [if_pos he] at hEQ
        have HT9 : Hid (t = batNo tt.e) := Lib.hid (by rw [← HBF.out]; unfold batF; rw [hEQ]; simp only; rw [if_pos he])
        have HE : Hid ((tt.e : Int) ≠ 0) := Lib.hid (by omega)
        have HE1 := Lib.hid he
        clear hEQ he hsucc HEQ
        go_wp2
        refine wp_region_any (by kernel_rfl) ?_
        refine wpAny_ready (rs := [0, 2]) (by kernel_rfl) (by simp) ?_
        refine AllReady.cons rfl (fun K hK => ?_) (AllReady.cons rfl (fun K hK => ?_) AllReady.nil)
        · go_simp
          refine hK _ _ ?_
          clear hK K
          refine wpAny_ready (rs := [1, 2]) (by kernel_rfl) (by simp) ?_
          refine AllReady.cons rfl (fun K hK => ?_) (AllReady.cons rfl (fun K hK => ?_) AllReady.nil)
          · go_simp
            refine hK _ _ ?_
            clear hK K
            refine wpAny_ready (rs := [2]) (by kernel_rfl) (by simp) ?_
            refine AllReady.cons rfl (fun K hK => ?_) AllReady.nil
            · go_simp
              refine hK _ _ ?_
              clear hK K
              refine wpAny_ready (rs := [3]) (by kernel_rfl) (by simp) ?_
              refine AllReady.cons rfl (fun K hK => ?_) AllReady.nil
              · go_simp
                refine (etake_no F b P at_ _ (HRd.new (below_drew _ _)) HFL.out hl tt HTT2.out HE1.out).mono ?_
                rintro r5 w5 ⟨rfl, hw5⟩
                go_simp
                have T5 := (HTT.new (below_drew _ _)).stepE hw5.step HN0.out
                have O5 := (HOO.new (below_drew _ _)).stepE hw5.step (fun e9 => by have := HF0.out _ e9; omega)
                have BB := Lib.hid (HBB.drew.trans (hw5.step.below (B := w.heap.size) HBB.size (fun k hk => by have := HF0.out _ hk; omega)))
                have O6 := (O5.new (below_alloc1 (Below.refl _ _) (Nat.le_refl _) (.cells #[.int .i64 tt.e] 129))).set (.int .i64 tt.e)
                have T6 := (T5.new (below_alloc1 (Below.refl _ _) (Nat.le_refl _) (.cells #[.int .i64 tt.e] 129))).other (g := w.heap.size + 1) (j := 0) (u := .int .i64 tt.e) (by omega)
                refine leaves_cons (f := 57) (args := #[.pointer (some ⟨w.heap.size + 1, 0, none⟩)]) (by simp) (by simp [go_sem]) ?_
                refine (caught_panic _ _ _ _ O5.c0 (O5.fz 0)).mono ?_
                rintro r6 u6 w6 ⟨rfl, rfl, rfl⟩
                refine leaves_cons (f := 56) (args := #[.pointer (some ⟨w.heap.size + 1, 0, none⟩), .pointer (some ⟨w.heap.size, 0, none⟩)]) (by simp [settle]) (by simp [go_sem]) ?_
                refine (undoB_no _ w.heap.size _ HE.out _ _ _ _ O6.c0 T6).mono ?_
                rintro r7 u7 w7 ⟨rfl, rfl, rfl⟩
                show Leaves _ _ _ _ [] .returning _
                have T7 := (T6.set0 (.int .u64 0)).set1 (.slice none 0 0)
                have O7 := (O6.other (g := w.heap.size) (j := 0) (u := .int .u64 0) (by omega)).other (g := w.heap.size) (j := 1) (u := .slice none 0 0) (by omega)
                refine ⟨_, results_batch rfl _ _ w.heap.size (w.heap.size + 1) _ _ _ rfl rfl T7 O7.c0, none, 0, by rw [HT9.out]; rfl, ⟨[], 0, by rw [HT9.out]; rfl, by rw [HT9.out]; rfl, EL.nil _ _, SepE.nil _ _⟩, ?_⟩
                exact ((((BB.out.alloc BB.out.size (.cells #[.int .i64 tt.e] 129)).setCell (by show w.heap.size ≤ w.heap.size + 1; omega) _)).setCell (Nat.le_refl _) _).setCell (Nat.le_refl _) _
          · go_simp
            refine hK _ _ ?_
            clear hK K
            refine wpAny_ready (rs := [1, 3]) (by kernel_rfl) (by simp) ?_
            refine AllReady.cons rfl (fun K hK => ?_) (AllReady.cons rfl (fun K hK => ?_) AllReady.nil)
            · go_simp
              refine hK _ _ ?_
              clear hK K
              refine wpAny_ready (rs := [3]) (by kernel_rfl) (by simp) ?_
              refine AllReady.cons rfl (fun K hK => ?_) AllReady.nil
              · go_simp
                refine (etake_no F b P at_ _ (HRd.new (below_drew _ _)) HFL.out hl tt HTT2.out HE1.out).mono ?_
                rintro r5 w5 ⟨rfl, hw5⟩
                go_simp
                have T5 := (HTT.new (below_drew _ _)).stepE hw5.step HN0.out
                have O5 := (HOO.new (below_drew _ _)).stepE hw5.step (fun e9 => by have := HF0.out _ e9; omega)
                have BB := Lib.hid (HBB.drew.trans (hw5.step.below (B := w.heap.size) HBB.size (fun k hk => by have := HF0.out _ hk; omega)))
                have O6 := (O5.new (below_alloc1 (Below.refl _ _) (Nat.le_refl _) (.cells #[.int .i64 tt.e] 129))).set (.int .i64 tt.e)
                have T6 := (T5.new (below_alloc1 (Below.refl _ _) (Nat.le_refl _) (.cells #[.int .i64 tt.e] 129))).other (g := w.heap.size + 1) (j := 0) (u := .int .i64 tt.e) (by omega)
                refine leaves_cons (f := 57) (args := #[.pointer (some ⟨w.heap.size + 1, 0, none⟩)]) (by simp) (by simp [go_sem]) ?_
                refine (caught_panic _ _ _ _ O5.c0 (O5.fz 0)).mono ?_
                rintro r6 u6 w6 ⟨rfl, rfl, rfl⟩
                refine leaves_cons (f := 56) (args := #[.pointer (some ⟨w.heap.size + 1, 0, none⟩), .pointer (some ⟨w.heap.size, 0, none⟩)]) (by simp [settle]) (by simp [go_sem]) ?_
                refine (undoB_no _ w.heap.size _ HE.out _ _ _ _ O6.c0 T6).mono ?_
                rintro r7 u7 w7 ⟨rfl, rfl, rfl⟩
                show Leaves _ _ _ _ [] .returning _
                have T7 := (T6.set0 (.int .u64 0)).set1 (.slice none 0 0)
                have O7 := (O6.other (g := w.heap.size) (j := 0) (u := .int .u64 0) (by omega)).other (g := w.heap.size) (j := 1) (u := .slice none 0 0) (by omega)
                refine ⟨_, results_batch rfl _ _ w.heap.size (w.heap.size + 1) _ _ _ rfl rfl T7 O7.c0, none, 0, by rw [HT9.out]; rfl, ⟨[], 0, by rw [HT9.out]; rfl, by rw [HT9.out]; rfl, EL.nil _ _, SepE.nil _ _⟩, ?_⟩
                exact ((((BB.out.alloc BB.out.size (.cells #[.int .i64 tt.e] 129)).setCell (by show w.heap.size ≤ w.heap.size + 1; omega) _)).setCell (Nat.le_refl _) _).setCell (Nat.le_refl _) _
            · go_simp
              refine (etake_no F b P at_ _ (HRd.new (below_drew _ _)) HFL.out hl tt HTT2.out HE1.out).mono ?_
              rintro r5 w5 ⟨rfl, hw5⟩
              go_simp
              have T5 := (HTT.new (below_drew _ _)).stepE hw5.step HN0.out
              have O5 := (HOO.new (below_drew _ _)).stepE hw5.step (fun e9 => by have := HF0.out _ e9; omega)
              have BB := Lib.hid (HBB.drew.trans (hw5.step.below (B := w.heap.size) HBB.size (fun k hk => by have := HF0.out _ hk; omega)))
              have O6 := (O5.new (below_alloc1 (Below.refl _ _) (Nat.le_refl _) (.cells #[.int .i64 tt.e] 129))).set (.int .i64 tt.e)
              have T6 := (T5.new (below_alloc1 (Below.refl _ _) (Nat.le_refl _) (.cells #[.int .i64 tt.e] 129))).other (g := w.heap.size + 1) (j := 0) (u := .int .i64 tt.e) (by omega)
              refine leaves_cons (f := 57) (args := #[.pointer (some ⟨w.heap.size + 1, 0, none⟩)]) (by simp) (by simp [go_sem]) ?_
              refine (caught_panic _ _ _ _ O5.c0 (O5.fz 0)).mono ?_
              rintro r6 u6 w6 ⟨rfl, rfl, rfl⟩
              refine leaves_cons (f := 56) (args := #[.pointer (some ⟨w.heap.size + 1, 0, none⟩), .pointer (some ⟨w.heap.size, 0, none⟩)]) (by simp [settle]) (by simp [go_sem]) ?_
              refine (undoB_no _ w.heap.size _ HE.out _ _ _ _ O6.c0 T6).mono ?_
              rintro r7 u7 w7 ⟨rfl, rfl, rfl⟩
              show Leaves _ _ _ _ [] .returning _
              have T7 := (T6.set0 (.int .u64 0)).set1 (.slice none 0 0)
              have O7 := (O6.other (g := w.heap.size) (j := 0) (u := .int .u64 0) (by omega)).other (g := w.heap.size) (j := 1) (u := .slice none 0 0) (by omega)
              refine ⟨_, results_batch rfl _ _ w.heap.size (w.heap.size + 1) _ _ _ rfl rfl T7 O7.c0, none, 0, by rw [HT9.out]; rfl, ⟨[], 0, by rw [HT9.out]; rfl, by rw [HT9.out]; rfl, EL.nil _ _, SepE.nil _ _⟩, ?_⟩
              exact ((((BB.out.alloc BB.out.size (.cells #[.int .i64 tt.e] 129)).setCell (by show w.heap.size ≤ w.heap.size + 1; omega) _)).setCell (Nat.le_refl _) _).setCell (Nat.le_refl _) _
        · go_simp
          refine hK _ _ ?_
          clear hK K
          refine wpAny_ready (rs := [0, 3]) (by kernel_rfl) (by simp) ?_
          refine AllReady.cons rfl (fun K hK => ?_) (AllReady.cons rfl (fun K hK => ?_) AllReady.nil)
          · go_simp
            refine hK _ _ ?_
            clear hK K
            refine wpAny_ready (rs := [1, 3]) (by kernel_rfl) (by simp) ?_
            refine AllReady.cons rfl (fun K hK => ?_) (AllReady.cons rfl (fun K hK => ?_) AllReady.nil)
            · go_simp
              refine hK _ _ ?_
              clear hK K
              refine wpAny_ready (rs := [3]) (by kernel_rfl) (by simp) ?_
              refine AllReady.cons rfl (fun K hK => ?_) AllReady.nil
              · go_simp
                refine (etake_no F b P at_ _ (HRd.new (below_drew _ _)) HFL.out hl tt HTT2.out HE1.out).mono ?_
                rintro r5 w5 ⟨rfl, hw5⟩
                go_simp
                have T5 := (HTT.new (below_drew _ _)).stepE hw5.step HN0.out
                have O5 := (HOO.new (below_drew _ _)).stepE hw5.step (fun e9 => by have := HF0.out _ e9; omega)
                have BB := Lib.hid (HBB.drew.trans (hw5.step.below (B := w.heap.size) HBB.size (fun k hk => by have := HF0.out _ hk; omega)))
                have O6 := (O5.new (below_alloc1 (Below.refl _ _) (Nat.le_refl _) (.cells #[.int .i64 tt.e] 129))).set (.int .i64 tt.e)
                have T6 := (T5.new (below_alloc1 (Below.refl _ _) (Nat.le_refl _) (.cells #[.int .i64 tt.e] 129))).other (g := w.heap.size + 1) (j := 0) (u := .int .i64 tt.e) (by omega)
                refine leaves_cons (f := 57) (args := #[.pointer (some ⟨w.heap.size + 1, 0, none⟩)]) (by simp) (by simp [go_sem]) ?_
                refine (caught_panic _ _ _ _ O5.c0 (O5.fz 0)).mono ?_
                rintro r6 u6 w6 ⟨rfl, rfl, rfl⟩
                refine leaves_cons (f := 56) (args := #[.pointer (some ⟨w.heap.size + 1, 0, none⟩), .pointer (some ⟨w.heap.size, 0, none⟩)]) (by simp [settle]) (by simp [go_sem]) ?_
                refine (undoB_no _ w.heap.size _ HE.out _ _ _ _ O6.c0 T6).mono ?_
                rintro r7 u7 w7 ⟨rfl, rfl, rfl⟩
                show Leaves _ _ _ _ [] .returning _
                have T7 := (T6.set0 (.int .u64 0)).set1 (.slice none 0 0)
                have O7 := (O6.other (g := w.heap.size) (j := 0) (u := .int .u64 0) (by omega)).other (g := w.heap.size) (j := 1) (u := .slice none 0 0) (by omega)
                refine ⟨_, results_batch rfl _ _ w.heap.size (w.heap.size + 1) _ _ _ rfl rfl T7 O7.c0, none, 0, by rw [HT9.out]; rfl, ⟨[], 0, by rw [HT9.out]; rfl, by rw [HT9.out]; rfl, EL.nil _ _, SepE.nil _ _⟩, ?_⟩
                exact ((((BB.out.alloc BB.out.size (.cells #[.int .i64 tt.e] 129)).setCell (by show w.heap.size ≤ w.heap.size + 1; omega) _)).setCell (Nat.le_refl _) _).setCell (Nat.le_refl _) _
            · go_simp
              refine (etake_no F b P at_ _ (HRd.new (below_drew _ _)) HFL.out hl tt HTT2.out HE1.out).mono ?_
              rintro r5 w5 ⟨rfl, hw5⟩
              go_simp
              have T5 := (HTT.new (below_drew _ _)).stepE hw5.step HN0.out
              have O5 := (HOO.new (below_drew _ _)).stepE hw5.step (fun e9 => by have := HF0.out _ e9; omega)
              have BB := Lib.hid (HBB.drew.trans (hw5.step.below (B := w.heap.size) HBB.size (fun k hk => by have := HF0.out _ hk; omega)))
              have O6 := (O5.new (below_alloc1 (Below.refl _ _) (Nat.le_refl _) (.cells #[.int .i64 tt.e] 129))).set (.int .i64 tt.e)
              have T6 := (T5.new (below_alloc1 (Below.refl _ _) (Nat.le_refl _) (.cells #[.int .i64 tt.e] 129))).other (g := w.heap.size + 1) (j := 0) (u := .int .i64 tt.e) (by omega)
              refine leaves_cons (f := 57) (args := #[.pointer (some ⟨w.heap.size + 1, 0, none⟩)]) (by simp) (by simp [go_sem]) ?_
              refine (caught_panic _ _ _ _ O5.c0 (O5.fz 0)).mono ?_
              rintro r6 u6 w6 ⟨rfl, rfl, rfl⟩
              refine leaves_cons (f := 56) (args := #[.pointer (some ⟨w.heap.size + 1, 0, none⟩), .pointer (some ⟨w.heap.size, 0, none⟩)]) (by simp [settle]) (by simp [go_sem]) ?_
              refine (undoB_no _ w.heap.size _ HE.out _ _ _ _ O6.c0 T6).mono ?_
              rintro r7 u7 w7 ⟨rfl, rfl, rfl⟩
              show Leaves _ _ _ _ [] .returning _
              have T7 := (T6.set0 (.int .u64 0)).set1 (.slice none 0 0)
              have O7 := (O6.other (g := w.heap.size) (j := 0) (u := .int .u64 0) (by omega)).other (g := w.heap.size) (j := 1) (u := .slice none 0 0) (by omega)
              refine ⟨_, results_batch rfl _ _ w.heap.size (w.heap.size + 1) _ _ _ rfl rfl T7 O7.c0, none, 0, by rw [HT9.out]; rfl, ⟨[], 0, by rw [HT9.out]; rfl, by rw [HT9.out]; rfl, EL.nil _ _, SepE.nil _ _⟩, ?_⟩
              exact ((((BB.out.alloc BB.out.size (.cells #[.int .i64 tt.e] 129)).setCell (by show w.heap.size ≤ w.heap.size + 1; omega) _)).setCell (Nat.le_refl _) _).setCell (Nat.le_refl _) _
          · go_simp
            refine (etake_no F b P at_ _ (HRd.new (below_drew _ _)) HFL.out hl tt HTT2.out HE1.out).mono ?_
            rintro r5 w5 ⟨rfl, hw5⟩
            go_simp
            have T5 := (HTT.new (below_drew _ _)).stepE hw5.step HN0.out
            have O5 := (HOO.new (below_drew _ _)).stepE hw5.step (fun e9 => by have := HF0.out _ e9; omega)
            have BB := Lib.hid (HBB.drew.trans (hw5.step.below (B := w.heap.size) HBB.size (fun k hk => by have := HF0.out _ hk; omega)))
            have O6 := (O5.new (below_alloc1 (Below.refl _ _) (Nat.le_refl _) (.cells #[.int .i64 tt.e] 129))).set (.int .i64 tt.e)
            have T6 := (T5.new (below_alloc1 (Below.refl _ _) (Nat.le_refl _) (.cells #[.int .i64 tt.e] 129))).other (g := w.heap.size + 1) (j := 0) (u := .int .i64 tt.e) (by omega)
            refine leaves_cons (f := 57) (args := #[.pointer (some ⟨w.heap.size + 1, 0, none⟩)]) (by simp) (by simp [go_sem]) ?_
            refine (caught_panic _ _ _ _ O5.c0 (O5.fz 0)).mono ?_
            rintro r6 u6 w6 ⟨rfl, rfl, rfl⟩
            refine leaves_cons (f := 56) (args := #[.pointer (some ⟨w.heap.size + 1, 0, none⟩), .pointer (some ⟨w.heap.size, 0, none⟩)]) (by simp [settle]) (by simp [go_sem]) ?_
            refine (undoB_no _ w.heap.size _ HE.out _ _ _ _ O6.c0 T6).mono ?_
            rintro r7 u7 w7 ⟨rfl, rfl, rfl⟩
            show Leaves _ _ _ _ [] .returning _
            have T7 := (T6.set0 (.int .u64 0)).set1 (.slice none 0 0)
            have O7 := (O6.other (g := w.heap.size) (j := 0) (u := .int .u64 0) (by omega)).other (g := w.heap.size) (j := 1) (u := .slice none 0 0) (by omega)
            refine ⟨_, results_batch rfl _ _ w.heap.size (w.heap.size + 1) _ _ _ rfl rfl T7 O7.c0, none, 0, by rw [HT9.out]; rfl, ⟨[], 0, by rw [HT9.out]; rfl, by rw [HT9.out]; rfl, EL.nil _ _, SepE.nil _ _⟩, ?_⟩
            exact ((((BB.out.alloc BB.out.size (.cells #[.int .i64 tt.e] 129)).setCell (by show w.heap.size ≤ w.heap.size + 1; omega) _)).setCell (Nat.le_refl _) _).setCell (Nat.le_refl _) _
    · obtain rfl : j = m := by omega
      have hEQ := HEQ.out
      rw [Nat.sub_self, entsS] at hEQ
      simp only [List.append_nil] at hEQ
      have hA0 : w.heap.size + 1 < w1.heap.size := O1.lt
      have hcap := HEL.cap
      have hlen := HEL.len
      have hjm : j ≤ 9223372036854775807 := by omega
      clear hlt HEQ
      obtain ⟨d, hd⟩ : ∃ d, d = doneE P at_ 0 := ⟨_, rfl⟩
      have HD := Lib.hid (show (d : Int) = (doneE P at_ 0 : Nat) by rw [hd])
      by_cases hd0 : d = 0
      · have HT9 : Hid (t = ⟨0, f, ensOf es⟩) := Lib.hid (by
          rw [← HBF.out]; unfold batF; rw [hEQ]; simp only; rw [if_neg (by simp), if_neg (by rw [← hd, hd0]; simp)])
        have HD0 := Lib.hid (show (0 : Int) = (doneE P at_ 0 : Nat) by rw [← hd, hd0]; rfl)
        have HLN := Lib.hid (show (ensOf es).length = j by unfold ensOf; rw [List.length_map]; exact hlen.symm)
        clear hEQ hd hd0 hlen
        go_wp2_with (first
          | (go_at_call 63; go_loud (with_reducible refine (doneN F b P at_ 0 0 HD0.out _ HRd).mono ?_); rintro e8 w8 ⟨rfl, hd8⟩; have T8 := HTT.new (hd8.below _); have O8 := HOO.new (hd8.below _); have y0 := T8.c0; have y1 := T8.c1; have g0 := T8.fz 0; have g1 := T8.fz 1; have o0 := O8.c0; have o1 := O8.fz 0; have B8 := Lib.hid (HBB.trans (hd8.below _)); have L8 := Lib.hid (HEL.new (hd8.below _)); have SP8 := Lib.hid (HSP.new (hd8.below _)))
          | (go_at_call 60; (with_reducible refine (refuse_ok _).mono ?_); rintro r2 w4 ⟨rfl, rfl⟩)
          | (go_at_call 64; go_loud (with_reducible refine (clip_calls A1 j c1 hcap hjm _).mono ?_); rintro r9 w9 ⟨rfl, rfl⟩))
        have T9 := ((((T8.set1 (.slice A1 j j)).set0 (.int .u64 f)).set1 (.slice A1 j j)).other (g := w.heap.size + 1) (j := 0) (u := .int .i64 0) (by omega))
        have O9 := (((O8.other (g := w.heap.size) (j := 1) (u := .slice A1 j j) (by omega)).other (g := w.heap.size) (j := 0) (u := .int .u64 f) (by omega)).other (g := w.heap.size) (j := 1) (u := .slice A1 j j) (by omega)).set (.int .i64 0)
        have SP9 := (((SP8.out.setLow (g := w.heap.size) (j := 1) (u := .slice A1 j j) (by omega)).setLow (g := w.heap.size) (j := 0) (u := .int .u64 f) (by omega)).setLow (g := w.heap.size) (j := 1) (u := .slice A1 j j) (by omega)).setLow (g := w.heap.size + 1) (j := 0) (u := .int .i64 0) (by omega)
        have L9 := (((L8.out.setLow (g := w.heap.size) (j := 1) (u := .slice A1 j j) (by omega)).setLow (g := w.heap.size) (j := 0) (u := .int .u64 f) (by omega)).setLow (g := w.heap.size) (j := 1) (u := .slice A1 j j) (by omega)).setLow (g := w.heap.size + 1) (j := 0) (u := .int .i64 0) (by omega)
        refine leaves_cons (f := 57) (args := #[.pointer (some ⟨w.heap.size + 1, 0, none⟩)]) (by simp) (by simp [go_sem]) ?_
        refine (caught_idle _ _).mono ?_
        rintro r6 u6 w6 ⟨rfl, rfl, rfl⟩
        refine leaves_cons (f := 56) (args := #[.pointer (some ⟨w.heap.size + 1, 0, none⟩), .pointer (some ⟨w.heap.size, 0, none⟩)]) (by simp [settle]) (by simp [go_sem]) ?_
        refine (undoB_ok _ _ _ _ O9.c0).mono ?_
        rintro r7 u7 w7 ⟨rfl, rfl, rfl⟩
        show Leaves _ _ _ _ [] .returning _
        refine ⟨_, results_batch rfl _ _ w.heap.size (w.heap.size + 1) _ _ _ rfl rfl T9 O9.c0, A1, j, by rw [HT9.out]; simp only [HLN.out]; rfl, ⟨es, c1, by rw [HT9.out], by rw [HT9.out]; simp [ensOf], by rw [← L9.len]; exact L9.monoK (by omega), SP9.sep.mono (by omega)⟩, ?_⟩
        exact belowS (g := w.heap.size + 1) (belowS (g := w.heap.size) (belowS (g := w.heap.size) (belowS (g := w.heap.size) B8.out (Nat.le_refl _) _) (Nat.le_refl _) _) (Nat.le_refl _) _) (Nat.le_succ _) _
      · have HT9 : Hid (t = batNo d) := Lib.hid (by
          rw [← HBF.out]; unfold batF; rw [hEQ]; simp only; rw [if_neg (by simp), if_pos (by rw [← hd]; exact hd0), ← hd])
        have HE : Hid ((d : Int) ≠ 0) := Lib.hid (by omega)
        clear hEQ hd hd0 hlen
        go_wp2_with (first
          | (go_at_call 63; go_loud (with_reducible refine (doneN F b P at_ 0 d HD.out _ HRd).mono ?_); rintro e8 w8 ⟨rfl, hd8⟩; have T8 := HTT.new (hd8.below _); have O8 := HOO.new (hd8.below _); have B8 := Lib.hid (HBB.trans (hd8.below _)))
          | (go_at_call 60; (with_reducible refine (refuse_no d HE.out _).mono ?_); rintro r2 w4 ⟨rfl, rfl⟩))
        have T5 := T8
        have O5 := O8
        have BB := B8
        have O6 := (O5.new (below_alloc1 (Below.refl _ _) (Nat.le_refl _) (.cells #[.int .i64 d] 129))).set (.int .i64 d)
        have T6 := (T5.new (below_alloc1 (Below.refl _ _) (Nat.le_refl _) (.cells #[.int .i64 d] 129))).other (g := w.heap.size + 1) (j := 0) (u := .int .i64 d) (by omega)
        refine leaves_cons (f := 57) (args := #[.pointer (some ⟨w.heap.size + 1, 0, none⟩)]) (by simp) (by simp [go_sem]) ?_
        refine (caught_panic _ _ _ _ O5.c0 (O5.fz 0)).mono ?_
        rintro r6 u6 w6 ⟨rfl, rfl, rfl⟩
        refine leaves_cons (f := 56) (args := #[.pointer (some ⟨w.heap.size + 1, 0, none⟩), .pointer (some ⟨w.heap.size, 0, none⟩)]) (by simp [settle]) (by simp [go_sem]) ?_
        refine (undoB_no _ w.heap.size _ HE.out _ _ _ _ O6.c0 T6).mono ?_
        rintro r7 u7 w7 ⟨rfl, rfl, rfl⟩
        show Leaves _ _ _ _ [] .returning _
        have T7 := (T6.set0 (.int .u64 0)).set1 (.slice none 0 0)
        have O7 := (O6.other (g := w.heap.size) (j := 0) (u := .int .u64 0) (by omega)).other (g := w.heap.size) (j := 1) (u := .slice none 0 0) (by omega)
        refine ⟨_, results_batch rfl _ _ w.heap.size (w.heap.size + 1) _ _ _ rfl rfl T7 O7.c0, none, 0, by rw [HT9.out]; rfl, ⟨[], 0, by rw [HT9.out]; rfl, by rw [HT9.out]; rfl, EL.nil _ _, SepE.nil _ _⟩, ?_⟩
        exact ((((BB.out.alloc BB.out.size (.cells #[.int .i64 d] 129)).setCell (by show w.heap.size ≤ w.heap.size + 1; omega) _)).setCell (Nat.le_refl _) _).setCell (Nat.le_refl _) _
theorem batNo_calls {P : Program} {f : Nat} {args : Array Value} {w : World} {e : Nat} {t : Bat} (ht : batNo e = t) (h : Calls P f args w fun r w' => r = .returned (.tuple #[.agg #[.int .u64 0, .slice none 0 0], .int .i64 e]) ∧ Below w.heap.size w w') :
    Calls P f args w fun r w' => ∃ A' c', r = .returned (.tuple #[.agg #[.int .u64 t.f, .slice A' t.l.length c'], .int .i64 t.e]) ∧ BatK w w' A' t.l.length t.l := by
  subst ht
  exact h.mono fun r w' ⟨h1, h2⟩ => ⟨none, 0, h1, ⟨[], 0, rfl, rfl, EL.nil _ _, SepE.nil _ _⟩, h2⟩
theorem decodeBK_calls (A : Option Addr) (P : List UInt8) (n c : Nat) (w : World) (hp : RB w A c P) (hn : n = P.length) (hl : P.length ≤ 140737488355328) (t : Bat) (ht : decB P = t) :
    Calls Try.prog 21 #[.slice A n c] w fun r w' => ∃ A' c', r = .returned (.tuple #[.agg #[.int .u64 t.f, .slice A' t.l.length c'], .int .i64 t.e]) ∧ BatK w w' A' t.l.length t.l := by
  unfold decB at ht
  have hf := uvarS_lt P 0 0
  generalize hU1 : uvarS P 0 0 = u1 at *
  obtain ⟨f, a1, e1⟩ := u1
  simp only at ht hf
  by_cases h1 : e1 ≠ 0
  · rw [if_pos h1] at ht
    exact batNo_calls ht (batch_n1 A P n c w hp hn hl f a1 e1 hU1 h1)
  · rw [if_neg h1] at ht
    obtain rfl : e1 = 0 := by omega
    generalize hU2 : uvarS P a1 0 = u2 at *
    obtain ⟨m, a2, e2⟩ := u2
    simp only at ht
    by_cases h2 : e2 ≠ 0
    · rw [if_pos h2] at ht
      exact batNo_calls ht (batch_n2 A P n c w hp hn hl f a1 m a2 e2 hU1 hU2 h2)
    · rw [if_neg h2] at ht
      obtain rfl : e2 = 0 := by omega
      by_cases h3 : 64 < m
      · rw [if_pos h3] at ht
        exact batNo_calls ht (batch_n3 A P n c w hp hn hl f a1 m a2 hU1 hU2 h3)
      · rw [if_neg h3] at ht
        by_cases h4 : m = 0
        · rw [if_pos (.inl h4)] at ht
          exact batNo_calls ht (batch_n4a A P n c w hp hn hl f a1 m a2 hU1 hU2 h4)
        · by_cases h5 : 18446744073709551616 ≤ f + m
          · rw [if_pos (.inr h5)] at ht
            exact batNo_calls ht (batch_n4b A P n c w hp hn hl f a1 m a2 hU1 hU2 hf (by omega) h4 h5)
          · rw [if_neg (by omega)] at ht
            exact batch_main A P n c w hp hn hl f a1 m a2 hU1 hU2 hf (by omega) h4 (by omega) t ht
theorem decodeB_calls (A : Option Addr) (P : List UInt8) (n c : Nat) (w : World) (hp : RB w A c P) (hn : n = P.length) (hl : P.length ≤ 140737488355328) (t : Bat) (ht : decB P = t) :
    Calls Try.prog 21 #[.slice A n c] w fun r w' => ∃ A' c', r = .returned (.tuple #[.agg #[.int .u64 t.f, .slice A' t.l.length c'], .int .i64 t.e]) ∧ BatAt w w' A' t.l.length t.l :=
  (decodeBK_calls A P n c w hp hn hl t ht).mono fun _ _ ⟨A', c', h1, h2⟩ => ⟨A', c', h1, h2.at⟩
end Go.Proofs.Ytelecdncdaepnaa
