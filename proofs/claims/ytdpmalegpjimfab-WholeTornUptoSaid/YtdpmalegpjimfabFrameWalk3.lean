/- The walk of layer 7: Next. -/
import Derived.Test.YtdpmalegpjimfabFrameWalk2
import Derived.Deep.MidRow
import Derived.Deep.RegionHeld3
namespace Go.Proofs.Ytdpmalegpjimfab
open Go.RowKit
open WireMath (wideL numS beN)
open FrameMath (head crcP laid)

/-- what Next answers: what stands there, its place, its payload; where the next begins -/
structure Nx where
  kind : Nat
  place : Nat
  payload : List UInt8
  next : Int
def noNx (kind : Nat) (at_ : Int) : Nx := ⟨kind, 0, [], at_⟩
def nextF (P : List UInt8) (at_ : Int) : Nx :=
  if at_ = P.length then noNx 0 at_
  else if at_ < 0 ∨ P.length < at_ + 17 then noNx 2 at_
  else
    let a := at_.toNat
    let n := beN ((P.drop (a + 1)).take 4)
    let place := beN ((P.drop (a + 5)).take 8)
    let pay := (P.drop (a + 17)).take n
    if n < 1 ∨ 65535 < n ∨ P.length < a + 18 + n then noNx 2 at_
    else if laid place pay = (P.drop a).take (n + 18) then ⟨1, place, pay, at_ + 17 + n + 1⟩ else noNx 2 at_
theorem results_nx {fn : Func} {p u v : Tmp} (h : fn.results = #[.cell p 33, .tmp u, .tmp v]) (tmps : Array Value) (w : World) (b : Nat) (x y : Value) (hp : tmps.getD p undef = .pointer (some ⟨b, 0, none⟩)) (h0 : w.cell? ⟨b, 0, none⟩ = some x) (h1 : w.cell? ⟨b, 1, none⟩ = some y) :
    (results fn tmps).run Try.prog w = .ok (.tuple #[.agg #[x, y], tmps.getD u undef, tmps.getD v undef]) w := by
  have hp' : tmps[p]?.getD undef = .pointer (some ⟨b, 0, none⟩) := by simpa using hp
  have hl := run_loadVar_mid (P := Try.prog) w b 0 33 [x, y] _ (fun j v hj => by
    match j, hj with
    | 0, hj => simp at hj; subst hj; simpa using h0
    | 1, hj => simp at hj; subst hj; simpa using h1
    | j + 2, hj => simp at hj) Try.underlying33 rfl (by kernel_rfl)
  simp [results, h, hp', asAddr, hl]
/-- two cells that were just laid -/
theorem pair_cell (w : World) (u v : Value) (t : TypeId) : (w.alloc (.cells #[u, v] t)).cell? ⟨w.heap.size, 0, none⟩ = some u ∧ (w.alloc (.cells #[u, v] t)).cell? ⟨w.heap.size, 1, none⟩ = some v := by
  have e := heap_alloc_new w (.cells #[u, v] t)
  exact ⟨by rw [cell_of_row _ _ _ _ _ _ e]; rfl, by rw [cell_of_row _ _ _ _ _ _ e]; rfl⟩

structure Pair (w : World) (b : Nat) (u v : Value) : Prop where
  c0 : w.cell? ⟨b, 0, none⟩ = some u
  c1 : w.cell? ⟨b, 1, none⟩ = some v
  fz : ∀ j, w.frozen? ⟨b, j, none⟩ = false
theorem Pair.fresh (w : World) (u v : Value) (t : TypeId) : Pair (w.alloc (.cells #[u, v] t)) w.heap.size u v :=
  ⟨(pair_cell w u v t).1, (pair_cell w u v t).2, fun _ => frozen_of_row _ _ _ #[u, v] t (heap_alloc_new w (.cells #[u, v] t))⟩
theorem Pair.keep {w w' : World} {b : Nat} {u v : Value} (h : Pair w b u v) (hb : w'.heap[b]? = w.heap[b]?) : Pair w' b u v :=
  ⟨(World.cell?_of_block (a := ⟨b, 0, none⟩) hb).trans h.c0, (World.cell?_of_block (a := ⟨b, 1, none⟩) hb).trans h.c1, fun j => (World.frozen?_of_block (a := ⟨b, j, none⟩) hb).trans (h.fz j)⟩
theorem Pair.lt {w : World} {b : Nat} {u v : Value} (h : Pair w b u v) : b < w.heap.size := World.block_lt_of_cell? w _ h.c0
theorem Pair.new {w w' : World} {b : Nat} {u v : Value} (h : Pair w b u v) (B : Below w.heap.size w w') : Pair w' b u v := h.keep (B.block b h.lt)
theorem Pair.far {w w' : World} {b g : Nat} {u v : Value} (h : Pair w b u v) (hg : w.grownBy w' (some g)) (hne : b ≠ g) : Pair w' b u v := h.keep (hg.block b h.lt (fun e => hne (Option.some.inj e)))
theorem Pair.set0 {w : World} {b : Nat} {u v : Value} (h : Pair w b u v) (x : Value) : Pair (w.setCell ⟨b, 0, none⟩ x) b x v :=
  ⟨World.cell?_setCell_same _ _ _ h.c0, (World.cell?_setCell_other _ _ _ _ (by simp)).trans h.c1, fun j => by rw [World.frozen?_setCell]; exact h.fz j⟩
theorem Pair.set1 {w : World} {b : Nat} {u v : Value} (h : Pair w b u v) (x : Value) : Pair (w.setCell ⟨b, 1, none⟩ x) b u x :=
  ⟨(World.cell?_setCell_other _ _ _ _ (by simp)).trans h.c0, World.cell?_setCell_same _ _ _ h.c1, fun j => by rw [World.frozen?_setCell]; exact h.fz j⟩
theorem Pair.other {w : World} {b g j : Nat} {u v x : Value} (h : Pair w b u v) (hne : b ≠ g) : Pair (w.setCell ⟨g, j, none⟩ x) b u v := h.far (setCell_grown w g j x) hne

theorem OB.keepAt {w w' : World} {base e : Nat} {v : Value} {p : List UInt8} (h : OB w base e v p) (hk : ∀ g, base ≤ g → w'.heap[g]? = w.heap[g]?) : OB w' base e v p := by
  refine ⟨⟨h.out.1, ?_⟩⟩
  rcases h.out.2 with h5 | ⟨g, cap, cur, rfl, hg, hh, r5⟩
  · exact .inl h5
  · exact .inr ⟨g, cap, cur, rfl, hg, (hk g hg).trans hh, r5⟩

theorem beN8 (l : List UInt8) (h : l.length ≤ 8) : beN l ≤ 18446744073709551615 := by have := WireMath.beN_lt l 8 h; omega
theorem beN4 (l : List UInt8) (h : l.length ≤ 4) : beN l ≤ 4294967295 := by have := WireMath.beN_lt l 4 h; omega
/-- the numbers ahead of the payload, as the reader takes them -/
structure Nums (Q : List UInt8) (m place : Nat) : Prop where
  a1 : (numS Q 0 0 1).2.1 = 1
  a2 : (numS Q 0 0 1).2.2 = 0
  b0 : (m : Int) = (numS Q 1 0 4).1
  b1 : (numS Q 1 0 4).2.1 = 5
  b2 : (numS Q 1 0 4).2.2 = 0
  c0 : (place : Int) = (numS Q 5 0 8).1
  c1 : (numS Q 5 0 8).2.1 = 13
  c2 : (numS Q 5 0 8).2.2 = 0
  m : m ≤ 4294967295
  place : place ≤ 18446744073709551615
theorem quo_nums (P : List UInt8) (a : Nat) (h : a + 17 ≤ P.length) : Nums ((P.drop a).take 17) (beN ((P.drop (a + 1)).take 4)) (beN ((P.drop (a + 5)).take 8)) := by
  have hl : ((P.drop a).take 17).length = 17 := by simp; omega
  have h1 : (((P.drop a).take 17).drop 1).take 4 = (P.drop (a + 1)).take 4 := by rw [List.drop_take, List.drop_drop, List.take_take]; congr 1
  have h5 : (((P.drop a).take 17).drop 5).take 8 = (P.drop (a + 5)).take 8 := by rw [List.drop_take, List.drop_drop, List.take_take]; congr 1
  have e1 : numS ((P.drop a).take 17) 0 0 1 = (beN ((((P.drop a).take 17).drop 0).take 1), 0 + 1, 0) := by unfold WireMath.numS; rw [if_neg (by omega), if_neg (by omega)]
  have e2 : numS ((P.drop a).take 17) 1 0 4 = (beN ((P.drop (a + 1)).take 4), 1 + 4, 0) := by unfold WireMath.numS; rw [if_neg (by omega), if_neg (by omega), h1]
  have e3 : numS ((P.drop a).take 17) 5 0 8 = (beN ((P.drop (a + 5)).take 8), 5 + 8, 0) := by unfold WireMath.numS; rw [if_neg (by omega), if_neg (by omega), h5]
  refine ⟨?_, ?_, ?_, ?_, ?_, ?_, ?_, ?_, beN4 _ (by simp; omega), beN8 _ (by simp; omega)⟩ <;> simp only [e1, e2, e3]
theorem next_mid (P : List UInt8) (a : Nat) (h : a + 17 ≤ P.length) (h1 : ¬(a : Int) = P.length) : nextF P a =
    (let n := beN ((P.drop (a + 1)).take 4)
    let place := beN ((P.drop (a + 5)).take 8)
    let pay := (P.drop (a + 17)).take n
    if n < 1 ∨ 65535 < n ∨ P.length < a + 18 + n then noNx 2 a
    else if laid place pay = (P.drop a).take (n + 18) then ⟨1, place, pay, (a : Int) + 17 + n + 1⟩ else noNx 2 a) := by
  unfold nextF
  rw [if_neg h1, if_neg (by omega)]
  simp only [Int.toNat_natCast]
theorem ru32N (base : Nat → Prop) (b : Nat) (P : List UInt8) (at_ e : Nat) (v : Int) (a2 e2 : Nat) (hv : v = (numS P at_ e 4).1) (ha : (numS P at_ e 4).2.1 = a2) (he : (numS P at_ e 4).2.2 = e2) (w : World) (hr : Rd w base b P at_ e) (hl : P.length ≤ 9223372036854775807) :
    Calls Try.prog 50 #[.pointer (some ⟨b, 0, none⟩)] w fun e' w' => e' = .returned (.int .u32 v) ∧ Rd w' base b P a2 e2 ∧ w.grownBy w' (some b) := by
  subst hv; subst ha; subst he; exact ru32_calls base b P at_ e w hr hl
theorem ru64N (base : Nat → Prop) (b : Nat) (P : List UInt8) (at_ e : Nat) (v : Int) (a2 e2 : Nat) (hv : v = (numS P at_ e 8).1) (ha : (numS P at_ e 8).2.1 = a2) (he : (numS P at_ e 8).2.2 = e2) (w : World) (hr : Rd w base b P at_ e) (hl : P.length ≤ 9223372036854775807) :
    Calls Try.prog 51 #[.pointer (some ⟨b, 0, none⟩)] w fun e' w' => e' = .returned (.int .u64 v) ∧ Rd w' base b P a2 e2 ∧ w.grownBy w' (some b) := by
  subst hv; subst ha; subst he; exact ru64_calls base b P at_ e w hr hl

set_option maxHeartbeats 1000000 in
set_option maxRecDepth 100000 in
theorem next_calls (A : Option Addr) (P : List UInt8) (n c : Nat) (at_ : Int) (hat : -9223372036854775808 ≤ at_ ∧ at_ ≤ 9223372036854775807) (w : World) (hp : RB w A c P) (hn : n = P.length) (hl : P.length ≤ 281474976710656) :
    Calls Try.prog 18 #[.slice A n c, .int .i64 at_] w fun e w' => ∃ A' c', e = .returned (.tuple #[.agg #[.int .u64 (nextF P at_).place, .slice A' (nextF P at_).payload.length c'], .int .i64 (nextF P at_).next, .int .i64 (nextF P at_).kind]) ∧ NewB w w' (.slice A' (nextF P at_).payload.length c') (nextF P at_).payload := by
  subst hn
  have hA := below_alloc1 (Below.refl w.heap.size w) (Nat.le_refl _) (.cells #[.int .u64 0, .slice none 0 0] 33)
  have hpc := pair_cell w (.int .u64 0) (.slice none 0 0) 33
  by_cases h1 : at_ = P.length
  · have hN : nextF P at_ = noNx 0 at_ := by unfold nextF; rw [if_pos h1]
    rw [hN]
    have h1b : (at_ == (P.length : Int)) = true := by rw [beq_iff_eq]; exact h1
    have HPC := Lib.hid hpc
    have HA := Lib.hid hA
    clear hN h1 hpc hA
    go_enter Try.func18, Try.ntmps18
    go_wp2
    exact bodyPost_ret (results_nx rfl _ _ w.heap.size _ _ rfl HPC.out.1 HPC.out.2) rfl ⟨none, 0, rfl, OB.nil _ _ _, HA.out⟩
  · have h1b : (at_ == (P.length : Int)) = false := by rw [beq_eq_false_iff_ne]; exact h1
    by_cases h2 : at_ < 0 ∨ (P.length : Int) < at_ + 17
    · have hN : nextF P at_ = noNx 2 at_ := by unfold nextF; rw [if_neg h1, if_pos h2]
      rw [hN]
      have HPC := Lib.hid hpc
      have HA := Lib.hid hA
      clear hN h1 hpc hA
      go_enter Try.func18, Try.ntmps18
      go_wp2
      all_goals exact bodyPost_ret (results_nx rfl _ _ w.heap.size _ _ rfl HPC.out.1 HPC.out.2) rfl ⟨none, 0, rfl, OB.nil _ _ _, HA.out⟩
    · obtain ⟨a, rfl⟩ := Int.eq_ofNat_of_zero_le (by omega : 0 ≤ at_)
      have ha : a + 17 ≤ P.length := by omega
      have hcap := hp.len
      have hN := next_mid P a ha h1
      have hQ : ((P.drop a).take 17).length = 17 := by simp; omega
      have hu := quo_nums P a ha
      generalize hq : (P.drop a).take 17 = Q at *
      have hsl := fun w' : World => run_cut w' A P.length c (a : Int) ((a : Int) + 17) a (a + 17) rfl (by omega) (by omega) (by omega)
      have hcut := hp.cut a (a + 17) (by omega) ha
      rw [Nat.add_sub_cancel_left] at hsl hcut
      rw [hq] at hcut
      have HCUT := Lib.hid hcut
      have HPC := Lib.hid hpc
      have HA := Lib.hid hA
      have HQ := Lib.hid hQ
      have HU := Lib.hid hu
      clear h1 hpc hA hcut hq hQ hu h2
      generalize beN ((P.drop (a + 1)).take 4) = m at *
      generalize beN ((P.drop (a + 5)).take 8) = place at *
      have HN := Lib.hid hN
      have hmle := HU.out.m
      clear hN
      by_cases hbad : m < 1 ∨ 65535 < m ∨ P.length < a + 18 + m
      · have HN2 := Lib.hid (HN.out.trans (if_pos hbad))
        rw [HN2.out]
        go_enter Try.func18, Try.ntmps18
        go_wp2_with (first
          | (go_at_call 40; go_loud (with_reducible refine (newReader_calls _ Q (c - a) 17 _ (HCUT.out.new HA.out) HQ.out.symm (by rw [HQ.out]; decide)).mono ?_); rintro e6 w6 ⟨b, rfl, hr6, hb6⟩)
          | (go_at_call 49; go_loud (with_reducible refine (ru8N _ b Q 0 0 _ 1 0 rfl HU.out.a1 HU.out.a2 _ hr6 (by rw [HQ.out]; decide)).mono ?_); rintro e7 w7 ⟨rfl, hr7, hg7⟩)
          | (go_at_call 50; go_loud (with_reducible refine (ru32N _ b Q 1 0 m 5 0 HU.out.b0 HU.out.b1 HU.out.b2 _ hr7 (by rw [HQ.out]; decide)).mono ?_); rintro e8 w8 ⟨rfl, hr8, hg8⟩)
          | (go_at_call 51; go_loud (with_reducible refine (ru64N _ b Q 5 0 place 13 0 HU.out.c0 HU.out.c1 HU.out.c2 _ hr8 (by rw [HQ.out]; decide)).mono ?_); rintro e9 w9 ⟨rfl, hr9, hg9⟩; have hlo := hr6.lo; have hlt : w.heap.size < b := Nat.lt_of_lt_of_le (Pair.fresh w (.int .u64 0) (.slice none 0 0) 33).lt hlo; have PR := ((((Pair.fresh w (.int .u64 0) (.slice none 0 0) 33).new hb6).far hg7 (Nat.ne_of_lt hlt)).far hg8 (Nat.ne_of_lt hlt)).far hg9 (Nat.ne_of_lt hlt); have hne : w.heap.size ≠ w9.heap.size := Nat.ne_of_lt PR.lt; have P0 := PR.new (below_alloc1 (Below.refl _ w9) (Nat.le_refl _) (.cells #[.int .u64 place, .slice none 0 0] 33)); have z0 := P0.c0; have z1 := P0.c1; have z2 := P0.fz 0; have z3 := P0.fz 1))
        all_goals (have PE := Lib.hid ((P0.set0 (.int .u64 0)).set1 (.slice none 0 0)))
        all_goals (have B6 := below_then HA.out hb6)
        all_goals (have B9 := below_reader (below_reader (below_reader B6 hg7 (Nat.le_of_lt hlt)) hg8 (Nat.le_of_lt hlt)) hg9 (Nat.le_of_lt hlt))
        all_goals (have BE := ((B9.alloc B9.size (.cells #[.int .u64 place, .slice none 0 0] 33)).setCell (p := ⟨w.heap.size, 0, none⟩) (Nat.le_refl _) (.int .u64 0)).setCell (p := ⟨w.heap.size, 1, none⟩) (Nat.le_refl _) (.slice none 0 0))
        all_goals exact bodyPost_ret (results_nx rfl _ _ w.heap.size _ _ rfl PE.out.c0 PE.out.c1) rfl ⟨none, 0, rfl, OB.nil _ _ _, BE⟩
      · obtain ⟨hm1, hm2, hm3⟩ : 1 ≤ m ∧ m ≤ 65535 ∧ a + 18 + m ≤ P.length := by omega
        have HN2 := Lib.hid (HN.out.trans (if_neg hbad))
        have hpl := HU.out.place
        have hpay : ((P.drop (a + 17)).take m).length = m := by simp; omega
        have hwin : ((P.drop a).take (m + 18)).length = m + 18 := by simp; omega
        have hsl2 := fun w' : World => run_cut w' A P.length c ((a : Int) + 17) ((a : Int) + 17 + m) (a + 17) (a + 17 + m) rfl (by omega) (by omega) (by omega)
        have hsl3 := fun w' : World => run_cut w' A P.length c (a : Int) ((a : Int) + 17 + m + 1) a (a + (m + 18)) rfl (by omega) (by omega) (by omega)
        have hcp := hp.cut (a + 17) (a + 17 + m) (by omega) (by omega)
        have hcw := hp.cut a (a + (m + 18)) (by omega) (by omega)
        rw [Nat.add_sub_cancel_left] at hsl2 hsl3 hcp hcw
        generalize (P.drop (a + 17)).take m = pay at *
        generalize (P.drop a).take (m + 18) = win at *
        have HCP := Lib.hid hcp
        have HCW := Lib.hid hcw
        have HPAY := Lib.hid hpay
        have HWIN := Lib.hid hwin
        have hll := FrameMath.laid_length place pay
        generalize hld : laid place pay = ld at *
        have HLD := Lib.hid hld
        have HLL := Lib.hid (show m + 18 = ld.length by rw [hll, hpay])
        clear hbad hcp hcw hpay hwin hll hld
        by_cases heq : ld = win
        · have HE := Lib.hid (show (ld == win) = true by rw [heq]; simp)
          have HN3 := Lib.hid (HN2.out.trans (if_pos heq))
          rw [HN3.out]
          clear heq
          go_enter Try.func18, Try.ntmps18
          go_wp2_with (first
            | (go_at_call 40; go_loud (with_reducible refine (newReader_calls _ Q (c - a) 17 _ (HCUT.out.new HA.out) HQ.out.symm (by rw [HQ.out]; decide)).mono ?_); rintro e6 w6 ⟨b, rfl, hr6, hb6⟩)
            | (go_at_call 49; go_loud (with_reducible refine (ru8N _ b Q 0 0 _ 1 0 rfl HU.out.a1 HU.out.a2 _ hr6 (by rw [HQ.out]; decide)).mono ?_); rintro e7 w7 ⟨rfl, hr7, hg7⟩)
            | (go_at_call 50; go_loud (with_reducible refine (ru32N _ b Q 1 0 m 5 0 HU.out.b0 HU.out.b1 HU.out.b2 _ hr7 (by rw [HQ.out]; decide)).mono ?_); rintro e8 w8 ⟨rfl, hr8, hg8⟩)
            | (go_at_call 51; go_loud (with_reducible refine (ru64N _ b Q 5 0 place 13 0 HU.out.c0 HU.out.c1 HU.out.c2 _ hr8 (by rw [HQ.out]; decide)).mono ?_); rintro e9 w9 ⟨rfl, hr9, hg9⟩; have hlo := hr6.lo; have hlt : w.heap.size < b := Nat.lt_of_lt_of_le (Pair.fresh w (.int .u64 0) (.slice none 0 0) 33).lt hlo; have PR := ((((Pair.fresh w (.int .u64 0) (.slice none 0 0) 33).new hb6).far hg7 (Nat.ne_of_lt hlt)).far hg8 (Nat.ne_of_lt hlt)).far hg9 (Nat.ne_of_lt hlt); have hne : w.heap.size ≠ w9.heap.size := Nat.ne_of_lt PR.lt; have P0 := PR.new (below_alloc1 (Below.refl _ w9) (Nat.le_refl _) (.cells #[.int .u64 place, .slice none 0 0] 33)); have z0 := P0.c0; have z1 := P0.c1; have z2 := P0.fz 0; have z3 := P0.fz 1)
            | (go_at_call 52; (have HB9 := Lib.hid (below_reader (below_reader (below_reader (below_then HA.out hb6) hg7 (Nat.le_of_lt hlt)) hg8 (Nat.le_of_lt hlt)) hg9 (Nat.le_of_lt hlt))); (have HN9 := Lib.hid (HB9.out.alloc HB9.out.size (.cells #[.int .u64 place, .slice none 0 0] 33))); go_loud (with_reducible refine (bclone_calls (cutA A (a + 17) c) pay m (c - (a + 17)) _ (HCP.out.new HN9.out) HPAY.out.symm (by rw [HPAY.out]; omega)).mono ?_); rintro e10 w10 ⟨A10, c10, rfl, hn10⟩; have P1 := (Pair.fresh w9 (.int .u64 place) (.slice none 0 0) 33).new hn10.below; have P2 := P0.new hn10.below; have y1 := P1.c1; have y0 := P1.c0; have y3 := P1.fz 1))
          have hns : w9.heap.size + 1 ≤ w10.heap.size := Nat.lt_of_lt_of_le P1.lt (Nat.le_refl _)
          have PW := (P1.set1 (.slice A10 m c10)).new ((Below.refl _ _).drew)
          have PR2 := (P2.other (g := w9.heap.size) (j := 1) (x := .slice A10 m c10) hne).new ((Below.refl _ _).drew)
          have HOwn := hn10.own.lo
          have HB10 : Hid (RB (w10.setCell ⟨w9.heap.size, 1, none⟩ (.slice A10 m c10)).drew A10 c10 pay) := Lib.hid ((hn10.own.rb.keep fun x e hp => by
            have := HOwn x e hp
            have h2 : (w9.alloc (.cells #[.int .u64 place, .slice none 0 0] 33)).heap.size = w9.heap.size + 1 := Array.size_push ..
            exact (setCell_grown w10 w9.heap.size 1 _).block _ (hn10.own.rb.old.out x e hp) (fun e2 => by have := Option.some.inj e2; omega)).new ((Below.refl _ _).drew))
          have HW10 := Lib.hid ((below_then HN9.out hn10.below).setCell (p := ⟨w9.heap.size, 1, none⟩) HB9.out.size (.slice A10 m c10)).drew
          clear z0 z1 z2 z3 y0 y1 y3 hr6 hb6 hr7 hg7 hr8 hg8 hr9 hg9 PR P0 P1 P2 HPC HA
          have x0 := (show (w10.setCell ⟨w9.heap.size, 1, none⟩ (.slice A10 m c10)).cell? ⟨w9.heap.size, 0, none⟩ = some (.int .u64 place) from PW.c0)
          have x1 := (show (w10.setCell ⟨w9.heap.size, 1, none⟩ (.slice A10 m c10)).cell? ⟨w9.heap.size, 1, none⟩ = some (.slice A10 m c10) from PW.c1)
          go_region_held3 (fun w' => w'.cell? ⟨w9.heap.size, 0, none⟩ = some (.int .u64 place) ∧ w'.cell? ⟨w9.heap.size, 1, none⟩ = some (.slice A10 m c10)) (go_keep) (first
            | (go_at_call 54; go_loud (with_reducible refine (lay_calls place hpl A10 pay m c10 _ HB10.out HPAY.out.symm (by rw [HPAY.out]; exact hm2)).mono ?_); rintro e11 w11 ⟨A11, c11, rfl, hn11⟩; rw [HLD.out] at hn11; have P11 := PW.new hn11.below; have R11 := PR2.new hn11.below; have v0 := P11.c0; have v1 := P11.c1; have B11 := below_then HW10.out hn11.below)
            | (go_at_call 53; go_loud (with_reducible refine (bequal_calls A11 (cutA A a c) ld win (m + 18) (m + 18) c11 (c - a) _ hn11.own.rb (HCW.out.new B11) HLL.out HWIN.out.symm true HE.out).mono ?_); rintro e12 w12 ⟨rfl, rfl⟩))
          have r0 := R11.c0
          have r1 := R11.c1
          have r2 := R11.fz 0
          have r3 := R11.fz 1
          have PE := Lib.hid ((R11.set0 (.int .u64 place)).set1 (.slice A10 m c10))
          have BE := Lib.hid ((B11.setCell (p := ⟨w.heap.size, 0, none⟩) (Nat.le_refl _) (.int .u64 place)).setCell (p := ⟨w.heap.size, 1, none⟩) (Nat.le_refl _) (.slice A10 m c10))
          have hsz : (w9.alloc (.cells #[.int .u64 place, .slice none 0 0] 33)).heap.size = w9.heap.size + 1 := Array.size_push ..
          have O1 := (hn10.own.keepAt (w' := w10.setCell ⟨w9.heap.size, 1, none⟩ (.slice A10 m c10)) fun g hg => Below.heap_setCell _ _ _ _ (by show g ≠ w9.heap.size; omega)).new ((Below.refl _ _).drew)
          have O2 := (O1.new hn11.below).keepAt (w' := w11.setCell ⟨w.heap.size, 0, none⟩ (.int .u64 place)) fun g hg => Below.heap_setCell _ _ _ _ (by show g ≠ w.heap.size; have := HB9.out.size; omega)
          have O3 := Lib.hid ((O2.keepAt (w' := (w11.setCell ⟨w.heap.size, 0, none⟩ (.int .u64 place)).setCell ⟨w.heap.size, 1, none⟩ (.slice A10 m c10)) fun g hg => Below.heap_setCell _ _ _ _ (by show g ≠ w.heap.size; have := HB9.out.size; omega)).mono HN9.out.size)
          clear O1 O2 hsz
          go_wp2
          exact bodyPost_ret (results_nx rfl _ _ w.heap.size _ _ rfl PE.out.c0 PE.out.c1) rfl ⟨A10, c10, by rw [HPAY.out]; rfl, by rw [HPAY.out]; exact ⟨O3.out, BE.out⟩⟩
        · have HE := Lib.hid (show (ld == win) = false by rw [beq_eq_false_iff_ne]; exact heq)
          have HN3 := Lib.hid (HN2.out.trans (if_neg heq))
          rw [HN3.out]
          clear heq
          go_enter Try.func18, Try.ntmps18
          go_wp2_with (first
            | (go_at_call 40; go_loud (with_reducible refine (newReader_calls _ Q (c - a) 17 _ (HCUT.out.new HA.out) HQ.out.symm (by rw [HQ.out]; decide)).mono ?_); rintro e6 w6 ⟨b, rfl, hr6, hb6⟩)
            | (go_at_call 49; go_loud (with_reducible refine (ru8N _ b Q 0 0 _ 1 0 rfl HU.out.a1 HU.out.a2 _ hr6 (by rw [HQ.out]; decide)).mono ?_); rintro e7 w7 ⟨rfl, hr7, hg7⟩)
            | (go_at_call 50; go_loud (with_reducible refine (ru32N _ b Q 1 0 m 5 0 HU.out.b0 HU.out.b1 HU.out.b2 _ hr7 (by rw [HQ.out]; decide)).mono ?_); rintro e8 w8 ⟨rfl, hr8, hg8⟩)
            | (go_at_call 51; go_loud (with_reducible refine (ru64N _ b Q 5 0 place 13 0 HU.out.c0 HU.out.c1 HU.out.c2 _ hr8 (by rw [HQ.out]; decide)).mono ?_); rintro e9 w9 ⟨rfl, hr9, hg9⟩; have hlo := hr6.lo; have hlt : w.heap.size < b := Nat.lt_of_lt_of_le (Pair.fresh w (.int .u64 0) (.slice none 0 0) 33).lt hlo; have PR := ((((Pair.fresh w (.int .u64 0) (.slice none 0 0) 33).new hb6).far hg7 (Nat.ne_of_lt hlt)).far hg8 (Nat.ne_of_lt hlt)).far hg9 (Nat.ne_of_lt hlt); have hne : w.heap.size ≠ w9.heap.size := Nat.ne_of_lt PR.lt; have P0 := PR.new (below_alloc1 (Below.refl _ w9) (Nat.le_refl _) (.cells #[.int .u64 place, .slice none 0 0] 33)); have z0 := P0.c0; have z1 := P0.c1; have z2 := P0.fz 0; have z3 := P0.fz 1)
            | (go_at_call 52; (have HB9 := Lib.hid (below_reader (below_reader (below_reader (below_then HA.out hb6) hg7 (Nat.le_of_lt hlt)) hg8 (Nat.le_of_lt hlt)) hg9 (Nat.le_of_lt hlt))); (have HN9 := Lib.hid (HB9.out.alloc HB9.out.size (.cells #[.int .u64 place, .slice none 0 0] 33))); go_loud (with_reducible refine (bclone_calls (cutA A (a + 17) c) pay m (c - (a + 17)) _ (HCP.out.new HN9.out) HPAY.out.symm (by rw [HPAY.out]; omega)).mono ?_); rintro e10 w10 ⟨A10, c10, rfl, hn10⟩; have P1 := (Pair.fresh w9 (.int .u64 place) (.slice none 0 0) 33).new hn10.below; have P2 := P0.new hn10.below; have y1 := P1.c1; have y0 := P1.c0; have y3 := P1.fz 1))
          have hns : w9.heap.size + 1 ≤ w10.heap.size := Nat.lt_of_lt_of_le P1.lt (Nat.le_refl _)
          have PW := (P1.set1 (.slice A10 m c10)).new ((Below.refl _ _).drew)
          have PR2 := (P2.other (g := w9.heap.size) (j := 1) (x := .slice A10 m c10) hne).new ((Below.refl _ _).drew)
          have HOwn := hn10.own.lo
          have HB10 : Hid (RB (w10.setCell ⟨w9.heap.size, 1, none⟩ (.slice A10 m c10)).drew A10 c10 pay) := Lib.hid ((hn10.own.rb.keep fun x e hp => by
            have := HOwn x e hp
            have h2 : (w9.alloc (.cells #[.int .u64 place, .slice none 0 0] 33)).heap.size = w9.heap.size + 1 := Array.size_push ..
            exact (setCell_grown w10 w9.heap.size 1 _).block _ (hn10.own.rb.old.out x e hp) (fun e2 => by have := Option.some.inj e2; omega)).new ((Below.refl _ _).drew))
          have HW10 := Lib.hid ((below_then HN9.out hn10.below).setCell (p := ⟨w9.heap.size, 1, none⟩) HB9.out.size (.slice A10 m c10)).drew
          clear z0 z1 z2 z3 y0 y1 y3 hr6 hb6 hr7 hg7 hr8 hg8 hr9 hg9 PR P0 P1 P2 HPC HA
          have x0 := (show (w10.setCell ⟨w9.heap.size, 1, none⟩ (.slice A10 m c10)).cell? ⟨w9.heap.size, 0, none⟩ = some (.int .u64 place) from PW.c0)
          have x1 := (show (w10.setCell ⟨w9.heap.size, 1, none⟩ (.slice A10 m c10)).cell? ⟨w9.heap.size, 1, none⟩ = some (.slice A10 m c10) from PW.c1)
          go_region_held3 (fun w' => w'.cell? ⟨w9.heap.size, 0, none⟩ = some (.int .u64 place) ∧ w'.cell? ⟨w9.heap.size, 1, none⟩ = some (.slice A10 m c10)) (go_keep) (first
            | (go_at_call 54; go_loud (with_reducible refine (lay_calls place hpl A10 pay m c10 _ HB10.out HPAY.out.symm (by rw [HPAY.out]; exact hm2)).mono ?_); rintro e11 w11 ⟨A11, c11, rfl, hn11⟩; rw [HLD.out] at hn11; have P11 := PW.new hn11.below; have R11 := PR2.new hn11.below; have v0 := P11.c0; have v1 := P11.c1; have B11 := below_then HW10.out hn11.below)
            | (go_at_call 53; go_loud (with_reducible refine (bequal_calls A11 (cutA A a c) ld win (m + 18) (m + 18) c11 (c - a) _ hn11.own.rb (HCW.out.new B11) HLL.out HWIN.out.symm false HE.out).mono ?_); rintro e12 w12 ⟨rfl, rfl⟩))
          have r0 := R11.c0
          have r1 := R11.c1
          have r2 := R11.fz 0
          have r3 := R11.fz 1
          have PE := Lib.hid ((R11.set0 (.int .u64 0)).set1 (.slice none 0 0))
          have BE := Lib.hid ((B11.setCell (p := ⟨w.heap.size, 0, none⟩) (Nat.le_refl _) (.int .u64 0)).setCell (p := ⟨w.heap.size, 1, none⟩) (Nat.le_refl _) (.slice none 0 0))
          go_wp2
          exact bodyPost_ret (results_nx rfl _ _ w.heap.size _ _ rfl PE.out.c0 PE.out.c1) rfl ⟨none, 0, rfl, OB.nil _ _ _, BE.out⟩
end Go.Proofs.Ytdpmalegpjimfab
