/- The walk of entry.Decode. -/
import Derived.Test.YtelecdncdaepnaaEntryTake
namespace Go.Proofs.Ytelecdncdaepnaa
open Go.RowKit

/-- one cell of a box -/
structure One (w : World) (b : Nat) (x : Value) : Prop where
  c0 : w.cell? ⟨b, 0, none⟩ = some x
  fz : ∀ j, w.frozen? ⟨b, j, none⟩ = false
theorem One.fresh (w : World) (k : Nat) (hk : w.heap.size = k) (x : Value) (t : TypeId) : One (w.alloc (.cells #[x] t)) k x := by
  subst hk
  have e := heap_alloc_new w (.cells #[x] t)
  exact ⟨by rw [cell_of_row _ _ _ _ _ _ e]; rfl, fun _ => frozen_of_row _ _ _ #[x] t e⟩
theorem One.keep {w w' : World} {b : Nat} {x : Value} (h : One w b x) (hb : w'.heap[b]? = w.heap[b]?) : One w' b x :=
  ⟨(World.cell?_of_block (a := ⟨b, 0, none⟩) hb).trans h.c0, fun j => (World.frozen?_of_block (a := ⟨b, j, none⟩) hb).trans (h.fz j)⟩
theorem One.lt {w : World} {b : Nat} {x : Value} (h : One w b x) : b < w.heap.size := World.block_lt_of_cell? w _ h.c0
theorem One.new {w w' : World} {b : Nat} {x : Value} (h : One w b x) (B : Below w.heap.size w w') : One w' b x := h.keep (B.block b h.lt)
theorem One.other {w : World} {b g j : Nat} {x u : Value} (h : One w b x) (hne : b ≠ g) : One (w.setCell ⟨g, j, none⟩ u) b x := h.keep ((setCell_grown w g j u).block b h.lt (fun e => hne (Option.some.inj e)))
theorem One.set {w : World} {b : Nat} {x : Value} (h : One w b x) (u : Value) : One (w.setCell ⟨b, 0, none⟩ u) b u := ⟨World.cell?_setCell_same _ _ _ h.c0, fun j => by rw [World.frozen?_setCell]; exact h.fz j⟩
theorem One.other3 {w : World} {b g : Nat} {x u v t : Value} (h : One w b x) (hne : b ≠ g) : One (((w.setCell ⟨g, 0, none⟩ u).setCell ⟨g, 1, none⟩ v).setCell ⟨g, 2, none⟩ t) b x := ((h.other hne).other hne).other hne
/-- what Decode answers: the fault and the entry -/
def decF (P : List UInt8) : Nat × En := if (entS P 0).e ≠ 0 then ((entS P 0).e, ⟨0, [], []⟩) else if doneE P (entS P 0).at_ 0 ≠ 0 then (doneE P (entS P 0).at_ 0, ⟨0, [], []⟩) else (0, (entS P 0).v)
theorem results_dec {fn : Func} {p q : Tmp} (h : fn.results = #[.cell p 26, .cell q 35]) (tmps : Array Value) (w : World) (b c : Nat) (x y z u : Value) (hp : tmps.getD p undef = .pointer (some ⟨b, 0, none⟩)) (hq : tmps.getD q undef = .pointer (some ⟨c, 0, none⟩)) (ht : Trio w b x y z) (hu : w.cell? ⟨c, 0, none⟩ = some u) :
    (results fn tmps).run Try.prog w = .ok (.tuple #[.agg #[x, y, z], u]) w := by
  have hp' : tmps[p]?.getD undef = .pointer (some ⟨b, 0, none⟩) := by simpa using hp
  have hq' : tmps[q]?.getD undef = .pointer (some ⟨c, 0, none⟩) := by simpa using hq
  have hl := run_loadVar_mid (P := Try.prog) w b 0 26 [x, y, z] _ (fun j v hj => by
    match j, hj with
    | 0, hj => simp at hj; subst hj; simpa using ht.c0
    | 1, hj => simp at hj; subst hj; simpa using ht.c1
    | 2, hj => simp at hj; subst hj; simpa using ht.c2
    | j + 3, hj => simp at hj) Try.underlying26 rfl (by kernel_rfl)
  have hl2 : (loadVar 35 ⟨c, 0, none⟩).run Try.prog w = .ok u w := by
    simp [loadVar, go_sem, hu]
  simp [results, h, hp', hq', asAddr, hl, hl2]
set_option maxHeartbeats 400000 in
set_option maxRecDepth 100000 in
theorem decode_ok (A : Option Addr) (P : List UInt8) (n c : Nat) (w : World) (hp : RB w A c P) (hn : n = P.length) (hl : P.length ≤ 140737488355328) (t : Ent) (ht : entS P 0 = t) (h0 : t.e = 0) (hd : doneE P t.at_ 0 = 0) :
    Calls Try.prog 24 #[.slice A n c] w fun r w' => ∃ a : EnA, r = .returned (.tuple #[.agg #[.int .u8 t.v.k, .slice a.KA t.v.K.length a.kc, .slice a.VA t.v.V.length a.vc], .int .i64 0]) ∧ NewE w w' t.v a ∧ sepV (.slice a.KA t.v.K.length a.kc) (.slice a.VA t.v.V.length a.vc) := by
  subst hn
  have hmf : ∀ (fn : Fn) (first cap : Array Value) (w : World), (Instr.makeFunc fn first cap).run Try.prog w = .ok (.func fn first cap) w := fun _ _ _ _ => rfl
  have HB := Lib.hid (belowA (below_alloc1 (Below.refl w.heap.size w) (Nat.le_refl _) (.cells #[.int .u8 0, .slice none 0 0, .slice none 0 0] 26)) (.cells #[.int .i64 0] 35))
  have HT := Lib.hid ((Trio.fresh w w.heap.size rfl (.int .u8 0) (.slice none 0 0) (.slice none 0 0) 26).new (below_alloc1 (Below.refl _ _) (Nat.le_refl _) (.cells #[.int .i64 0] 35)))
  have HT0 := Lib.hid ht
  have HH0 := Lib.hid h0
  have HD := Lib.hid (show (0 : Int) = (doneE P t.at_ 0 : Nat) by rw [hd]; rfl)
  have HO := Lib.hid (One.fresh (w.alloc (.cells #[.int .u8 0, .slice none 0 0, .slice none 0 0] 26)) (w.heap.size + 1) (asz _ _) (.int .i64 0) 35)
  clear ht h0 hd
  go_enter_defers Try.func24, Try.ntmps24
  go_wp2_with (first
    | (go_at_call 58; go_loud (with_reducible refine (newReader_own A P c _ _ (hp.new HB.out) rfl hl).mono ?_); rintro e1 w1 ⟨b, F, rfl, hr1, hf1, hb1⟩; have T1 := HT.out.new hb1; have O1 := HO.out.new hb1; have B1 := Lib.hid (below_then HB.out hb1); have HF0 : Hid (∀ k, F k → w.heap.size + 1 + 1 ≤ k) := Lib.hid (fun k hk => Nat.le_trans (Nat.le_of_eq (asz2 w _ _).symm) (hf1.lo k hk)))
    | (go_at_call 62; go_loud (with_reducible refine (etake_ok F b P 0 _ hr1 hf1.hi hl t HT0.out HH0.out).mono ?_); rintro e2 w2 ⟨a, rfl, hK, hV, hr2, hw2, hkv⟩; have hz1 := T1.lt; have T2 := T1.stepE hw2.step (fun e9 => by have := HF0.out _ e9; omega); have O2 := O1.keep (hw2.step.block _ O1.lt (fun e9 => by have := HF0.out _ e9; omega)); have d0 := T2.c0; have d1 := T2.c1; have d2 := T2.c2; have f0 := T2.fz 0; have f1 := T2.fz 1; have f2 := T2.fz 2; have B2 := Lib.hid (B1.out.trans (hw2.step.below (B := w.heap.size) B1.out.size (fun k hk => by have := HF0.out _ hk; omega))); have HN0 : Hid (¬ F w.heap.size) := Lib.hid (fun e9 => by have := HF0.out _ e9; omega); have q2 := Lib.hid (((hr2.setBox (j := 0) (v := .int .u8 t.v.k) HN0.out).setBox (j := 1) (v := .slice a.KA t.v.K.length a.kc) HN0.out).setBox (j := 2) (v := .slice a.VA t.v.V.length a.vc) HN0.out); have S2 := Lib.hid (T2.put (.int .u8 t.v.k) (.slice a.KA t.v.K.length a.kc) (.slice a.VA t.v.V.length a.vc)); have O22 := Lib.hid (O2.other3 (g := w.heap.size) (u := .int .u8 t.v.k) (v := .slice a.KA t.v.K.length a.kc) (t := .slice a.VA t.v.V.length a.vc) (by omega)))
    | (go_at_call 63; go_loud (with_reducible refine (doneN F b P t.at_ 0 0 HD.out _ q2.out).mono ?_); rintro e3 w3 ⟨rfl, hd3⟩; have T3 := S2.out.new (hd3.below _); have O3 := O22.out.new (hd3.below _); have z0 := T3.c0; have z1 := T3.c1; have z2 := T3.c2; have g0 := T3.fz 0; have g1 := T3.fz 1; have g2 := T3.fz 2; have o0 := O3.c0; have o1 := O3.fz 0; have B3 := Lib.hid ((B2.out.trans (put3_below (B := w.heap.size) (Nat.le_refl _) (.int .u8 t.v.k) (.slice a.KA t.v.K.length a.kc) (.slice a.VA t.v.V.length a.vc))).trans (hd3.below _)))
    | (go_at_call 60; go_loud (with_reducible refine (refuse_ok _).mono ?_); rintro e4 w4 ⟨rfl, rfl⟩))
  have T4 := (T3.put (.int .u8 t.v.k) (.slice a.KA t.v.K.length a.kc) (.slice a.VA t.v.V.length a.vc))
  have O4 := (O3.other3 (g := w.heap.size) (u := .int .u8 t.v.k) (v := .slice a.KA t.v.K.length a.kc) (t := .slice a.VA t.v.V.length a.vc) (by omega)).set (.int .i64 0)
  have T5 := T4.other (g := w.heap.size + 1) (j := 0) (u := .int .i64 0) (by omega)
  refine leaves_cons (f := 57) (args := #[.pointer (some ⟨w.heap.size + 1, 0, none⟩)]) (by simp) (by simp [go_sem]) ?_
  refine (caught_idle _ _).mono ?_
  rintro r6 u6 w6 ⟨rfl, rfl, rfl⟩
  refine leaves_cons (f := 65) (args := #[.pointer (some ⟨w.heap.size + 1, 0, none⟩), .pointer (some ⟨w.heap.size, 0, none⟩)]) (by simp [settle]) (by simp [go_sem]) ?_
  refine (undo_ok _ _ _ _ O4.c0).mono ?_
  rintro r7 u7 w7 ⟨rfl, rfl, rfl⟩
  show Leaves _ _ _ _ [] .returning _
  have hlo : w.heap.size + 1 ≤ w1.heap.size := by omega
  have hne : ∀ {m : Nat} {A : Option Addr} {k : Nat}, (∀ x, (Value.slice A m k).ownBlock = some x → w1.heap.size ≤ x ∧ x < w2.heap.size) → (Value.slice A m k).ownBlock ≠ some w.heap.size ∧ (Value.slice A m k).ownBlock ≠ some (w.heap.size + 1) := fun h => ⟨fun e9 => by have := (h _ e9).1; omega, fun e9 => by have := (h _ e9).1; have := O1.lt; omega⟩
  have nK := hne hK.at_base
  have nV := hne hV.at_base
  refine ⟨_, results_dec rfl _ _ w.heap.size (w.heap.size + 1) _ _ _ _ rfl rfl T5 O4.c0, a, rfl, ⟨?_, ?_, ?_⟩, hkv⟩
  · exact ((((hK.mono (by omega)).put3 nK.1 _ _ _).new (hd3.below _)).put3 nK.1 _ _ _).keep (setCell_grown _ _ _ _) (.inr nK.2)
  · exact ((((hV.mono (by omega)).put3 nV.1 _ _ _).new (hd3.below _)).put3 nV.1 _ _ _).keep (setCell_grown _ _ _ _) (.inr nV.2)
  · exact (B3.out.trans (put3_below (Nat.le_refl _) _ _ _)).setCell (by show w.heap.size ≤ w.heap.size + 1; omega) _
set_option maxHeartbeats 400000 in
set_option maxRecDepth 100000 in
theorem decode_n1 (A : Option Addr) (P : List UInt8) (n c : Nat) (w : World) (hp : RB w A c P) (hn : n = P.length) (hl : P.length ≤ 140737488355328) (t : Ent) (ht : entS P 0 = t) (h0 : t.e ≠ 0) :
    Calls Try.prog 24 #[.slice A n c] w fun r w' => r = .returned (.tuple #[.agg #[.int .u8 0, .slice none 0 0, .slice none 0 0], .int .i64 t.e]) ∧ Below w.heap.size w w' := by
  subst hn
  have hmf : ∀ (fn : Fn) (first cap : Array Value) (w : World), (Instr.makeFunc fn first cap).run Try.prog w = .ok (.func fn first cap) w := fun _ _ _ _ => rfl
  have HB := Lib.hid (belowA (below_alloc1 (Below.refl w.heap.size w) (Nat.le_refl _) (.cells #[.int .u8 0, .slice none 0 0, .slice none 0 0] 26)) (.cells #[.int .i64 0] 35))
  have HT := Lib.hid ((Trio.fresh w w.heap.size rfl (.int .u8 0) (.slice none 0 0) (.slice none 0 0) 26).new (below_alloc1 (Below.refl _ _) (Nat.le_refl _) (.cells #[.int .i64 0] 35)))
  have HT0 := Lib.hid ht
  have HH0 := Lib.hid h0
  have HE : Hid ((t.e : Int) ≠ 0) := Lib.hid (by omega)
  have HO := Lib.hid (One.fresh (w.alloc (.cells #[.int .u8 0, .slice none 0 0, .slice none 0 0] 26)) (w.heap.size + 1) (asz _ _) (.int .i64 0) 35)
  clear ht h0
  go_enter_defers Try.func24, Try.ntmps24
  go_wp2_with (first
    | (go_at_call 58; go_loud (with_reducible refine (newReader_own A P c _ _ (hp.new HB.out) rfl hl).mono ?_); rintro e1 w1 ⟨b, F, rfl, hr1, hf1, hb1⟩; have T1 := HT.out.new hb1; have O1 := HO.out.new hb1; have B1 := Lib.hid (below_then HB.out hb1); have HF0 : Hid (∀ k, F k → w.heap.size + 1 + 1 ≤ k) := Lib.hid (fun k hk => Nat.le_trans (Nat.le_of_eq (asz2 w _ _).symm) (hf1.lo k hk)))
    | (go_at_call 62; go_loud (with_reducible refine (etake_no F b P 0 _ hr1 hf1.hi hl t HT0.out HH0.out).mono ?_); rintro e2 w2 ⟨rfl, hw2⟩; have hz1 := T1.lt; have T5 := T1.stepE hw2.step (fun e9 => by have := HF0.out _ e9; omega); have O5 := O1.keep (hw2.step.block _ O1.lt (fun e9 => by have := HF0.out _ e9; omega)); have BB := Lib.hid (B1.out.trans (hw2.step.below (B := w.heap.size) B1.out.size (fun k hk => by have := HF0.out _ hk; omega)))))
  have O6 := (O5.new (below_alloc1 (Below.refl _ _) (Nat.le_refl _) (.cells #[.int .i64 t.e] 129))).set (.int .i64 t.e)
  have T6 := (T5.new (below_alloc1 (Below.refl _ _) (Nat.le_refl _) (.cells #[.int .i64 t.e] 129))).other (g := w.heap.size + 1) (j := 0) (u := .int .i64 t.e) (by omega)
  refine leaves_cons (f := 57) (args := #[.pointer (some ⟨w.heap.size + 1, 0, none⟩)]) (by simp) (by simp [go_sem]) ?_
  refine (caught_panic _ _ _ _ O5.c0 (O5.fz 0)).mono ?_
  rintro r6 u6 w6 ⟨rfl, rfl, rfl⟩
  refine leaves_cons (f := 65) (args := #[.pointer (some ⟨w.heap.size + 1, 0, none⟩), .pointer (some ⟨w.heap.size, 0, none⟩)]) (by simp [settle]) (by simp [go_sem]) ?_
  refine (undo_no _ w.heap.size _ HE.out _ _ _ _ _ O6.c0 T6).mono ?_
  rintro r7 u7 w7 ⟨rfl, rfl, rfl⟩
  show Leaves _ _ _ _ [] .returning _
  have T7 := T6.put (.int .u8 0) (.slice none 0 0) (.slice none 0 0)
  have O7 := O6.other3 (g := w.heap.size) (u := .int .u8 0) (v := .slice none 0 0) (t := .slice none 0 0) (by omega)
  refine ⟨_, results_dec rfl _ _ w.heap.size (w.heap.size + 1) _ _ _ _ rfl rfl T7 O7.c0, rfl, ?_⟩
  exact (((BB.out.alloc BB.out.size (.cells #[.int .i64 t.e] 129)).setCell (by show w.heap.size ≤ w.heap.size + 1; omega) _)).trans (put3_below (Nat.le_refl _) _ _ _)
set_option maxHeartbeats 400000 in
set_option maxRecDepth 100000 in
theorem decode_n2 (A : Option Addr) (P : List UInt8) (n c : Nat) (w : World) (hp : RB w A c P) (hn : n = P.length) (hl : P.length ≤ 140737488355328) (t : Ent) (ht : entS P 0 = t) (h0 : t.e = 0) (d : Nat) (hd : doneE P t.at_ 0 = d) (hd0 : d ≠ 0) :
    Calls Try.prog 24 #[.slice A n c] w fun r w' => r = .returned (.tuple #[.agg #[.int .u8 0, .slice none 0 0, .slice none 0 0], .int .i64 d]) ∧ Below w.heap.size w w' := by
  subst hn
  have hmf : ∀ (fn : Fn) (first cap : Array Value) (w : World), (Instr.makeFunc fn first cap).run Try.prog w = .ok (.func fn first cap) w := fun _ _ _ _ => rfl
  have HB := Lib.hid (belowA (below_alloc1 (Below.refl w.heap.size w) (Nat.le_refl _) (.cells #[.int .u8 0, .slice none 0 0, .slice none 0 0] 26)) (.cells #[.int .i64 0] 35))
  have HT := Lib.hid ((Trio.fresh w w.heap.size rfl (.int .u8 0) (.slice none 0 0) (.slice none 0 0) 26).new (below_alloc1 (Below.refl _ _) (Nat.le_refl _) (.cells #[.int .i64 0] 35)))
  have HT0 := Lib.hid ht
  have HH0 := Lib.hid h0
  have HD := Lib.hid (show (d : Int) = (doneE P t.at_ 0 : Nat) by rw [hd])
  have HE : Hid ((d : Int) ≠ 0) := Lib.hid (by omega)
  have HO := Lib.hid (One.fresh (w.alloc (.cells #[.int .u8 0, .slice none 0 0, .slice none 0 0] 26)) (w.heap.size + 1) (asz _ _) (.int .i64 0) 35)
  clear ht h0 hd hd0
  go_enter_defers Try.func24, Try.ntmps24
  go_wp2_with (first
    | (go_at_call 58; go_loud (with_reducible refine (newReader_own A P c _ _ (hp.new HB.out) rfl hl).mono ?_); rintro e1 w1 ⟨b, F, rfl, hr1, hf1, hb1⟩; have T1 := HT.out.new hb1; have O1 := HO.out.new hb1; have B1 := Lib.hid (below_then HB.out hb1); have HF0 : Hid (∀ k, F k → w.heap.size + 1 + 1 ≤ k) := Lib.hid (fun k hk => Nat.le_trans (Nat.le_of_eq (asz2 w _ _).symm) (hf1.lo k hk)))
    | (go_at_call 62; go_loud (with_reducible refine (etake_ok F b P 0 _ hr1 hf1.hi hl t HT0.out HH0.out).mono ?_); rintro e2 w2 ⟨a, rfl, hK, hV, hr2, hw2, _⟩; have hz1 := T1.lt; have T2 := T1.stepE hw2.step (fun e9 => by have := HF0.out _ e9; omega); have O2 := O1.keep (hw2.step.block _ O1.lt (fun e9 => by have := HF0.out _ e9; omega)); have d0 := T2.c0; have d1 := T2.c1; have d2 := T2.c2; have f0 := T2.fz 0; have f1 := T2.fz 1; have f2 := T2.fz 2; have B2 := Lib.hid (B1.out.trans (hw2.step.below (B := w.heap.size) B1.out.size (fun k hk => by have := HF0.out _ hk; omega))); have HN0 : Hid (¬ F w.heap.size) := Lib.hid (fun e9 => by have := HF0.out _ e9; omega); have q2 := Lib.hid (((hr2.setBox (j := 0) (v := .int .u8 t.v.k) HN0.out).setBox (j := 1) (v := .slice a.KA t.v.K.length a.kc) HN0.out).setBox (j := 2) (v := .slice a.VA t.v.V.length a.vc) HN0.out); have S2 := Lib.hid (T2.put (.int .u8 t.v.k) (.slice a.KA t.v.K.length a.kc) (.slice a.VA t.v.V.length a.vc)); have O22 := Lib.hid (O2.other3 (g := w.heap.size) (u := .int .u8 t.v.k) (v := .slice a.KA t.v.K.length a.kc) (t := .slice a.VA t.v.V.length a.vc) (by omega)))
    | (go_at_call 63; go_loud (with_reducible refine (doneN F b P t.at_ 0 d HD.out _ q2.out).mono ?_); rintro e3 w3 ⟨rfl, hd3⟩; have T3 := S2.out.new (hd3.below _); have O3 := O22.out.new (hd3.below _); have z0 := T3.c0; have z1 := T3.c1; have z2 := T3.c2; have g0 := T3.fz 0; have g1 := T3.fz 1; have g2 := T3.fz 2; have o0 := O3.c0; have o1 := O3.fz 0; have B3 := Lib.hid ((B2.out.trans (put3_below (B := w.heap.size) (Nat.le_refl _) (.int .u8 t.v.k) (.slice a.KA t.v.K.length a.kc) (.slice a.VA t.v.V.length a.vc))).trans (hd3.below _)))
    | (go_at_call 60; go_loud (with_reducible refine (refuse_no d HE.out _).mono ?_); rintro e4 w4 ⟨rfl, rfl⟩))
  have T5 := T3
  have O5 := O3
  have BB := B3
  have O6 := (O5.new (below_alloc1 (Below.refl _ _) (Nat.le_refl _) (.cells #[.int .i64 d] 129))).set (.int .i64 d)
  have T6 := (T5.new (below_alloc1 (Below.refl _ _) (Nat.le_refl _) (.cells #[.int .i64 d] 129))).other (g := w.heap.size + 1) (j := 0) (u := .int .i64 d) (by omega)
  refine leaves_cons (f := 57) (args := #[.pointer (some ⟨w.heap.size + 1, 0, none⟩)]) (by simp) (by simp [go_sem]) ?_
  refine (caught_panic _ _ _ _ O5.c0 (O5.fz 0)).mono ?_
  rintro r6 u6 w6 ⟨rfl, rfl, rfl⟩
  refine leaves_cons (f := 65) (args := #[.pointer (some ⟨w.heap.size + 1, 0, none⟩), .pointer (some ⟨w.heap.size, 0, none⟩)]) (by simp [settle]) (by simp [go_sem]) ?_
  refine (undo_no _ w.heap.size _ HE.out _ _ _ _ _ O6.c0 T6).mono ?_
  rintro r7 u7 w7 ⟨rfl, rfl, rfl⟩
  show Leaves _ _ _ _ [] .returning _
  have T7 := T6.put (.int .u8 0) (.slice none 0 0) (.slice none 0 0)
  have O7 := O6.other3 (g := w.heap.size) (u := .int .u8 0) (v := .slice none 0 0) (t := .slice none 0 0) (by omega)
  refine ⟨_, results_dec rfl _ _ w.heap.size (w.heap.size + 1) _ _ _ _ rfl rfl T7 O7.c0, rfl, ?_⟩
  exact (((BB.out.alloc BB.out.size (.cells #[.int .i64 d] 129)).setCell (by show w.heap.size ≤ w.heap.size + 1; omega) _)).trans (put3_below (Nat.le_refl _) _ _ _)
theorem decodeEK_calls (A : Option Addr) (P : List UInt8) (n c : Nat) (w : World) (hp : RB w A c P) (hn : n = P.length) (hl : P.length ≤ 140737488355328) :
    Calls Try.prog 24 #[.slice A n c] w fun r w' => ∃ a : EnA, r = .returned (.tuple #[.agg #[.int .u8 (decF P).2.k, .slice a.KA (decF P).2.K.length a.kc, .slice a.VA (decF P).2.V.length a.vc], .int .i64 (decF P).1]) ∧ NewE w w' (decF P).2 a ∧ sepV (.slice a.KA (decF P).2.K.length a.kc) (.slice a.VA (decF P).2.V.length a.vc) := by
  unfold decF
  by_cases h1 : (entS P 0).e ≠ 0
  · rw [if_pos h1]
    refine (decode_n1 A P n c w hp hn hl _ rfl h1).mono fun r w' ⟨h2, h3⟩ => ⟨⟨none, 0, none, 0⟩, h2, ⟨OB.nil _ _ _, OB.nil _ _ _, h3⟩, .inl rfl⟩
  · rw [if_neg h1]
    by_cases h4 : doneE P (entS P 0).at_ 0 ≠ 0
    · rw [if_pos h4]
      refine (decode_n2 A P n c w hp hn hl _ rfl (by omega) _ rfl h4).mono fun r w' ⟨h2, h3⟩ => ⟨⟨none, 0, none, 0⟩, h2, ⟨OB.nil _ _ _, OB.nil _ _ _, h3⟩, .inl rfl⟩
    · rw [if_neg h4]
      exact decode_ok A P n c w hp hn hl _ rfl (by omega) (by omega)
theorem decodeE_calls (A : Option Addr) (P : List UInt8) (n c : Nat) (w : World) (hp : RB w A c P) (hn : n = P.length) (hl : P.length ≤ 140737488355328) :
    Calls Try.prog 24 #[.slice A n c] w fun r w' => ∃ a : EnA, r = .returned (.tuple #[.agg #[.int .u8 (decF P).2.k, .slice a.KA (decF P).2.K.length a.kc, .slice a.VA (decF P).2.V.length a.vc], .int .i64 (decF P).1]) ∧ NewE w w' (decF P).2 a :=
  (decodeEK_calls A P n c w hp hn hl).mono fun _ _ ⟨a, h1, h2, _⟩ => ⟨a, h1, h2⟩
end Go.Proofs.Ytelecdncdaepnaa
