import Derived.Test.YtlcbjjgmkllceaaQWireLaid
/- The laws' own calls of layer 1 on readers: take. -/
namespace Go.Proofs.Ytlcbjjgmkllceaa
open Go.RowKit
open WireMath (numS beN rawS blobS uvarS grpL grpTo uvarL)

/-- what a script's thing takes off: a number, bytes, the place and the fault behind it -/
structure Took where
  v : Nat
  q : List UInt8
  at_ : Nat
  e : Nat
def takeS (P : List UInt8) (at_ e : Nat) (k n : Int) : Took :=
  if 0 < widthF k then ⟨(numS P at_ e (widthF k)).1, [], (numS P at_ e (widthF k)).2.1, (numS P at_ e (widthF k)).2.2⟩
  else if k = 5 then ⟨(uvarS P at_ e).1, [], (uvarS P at_ e).2.1, (uvarS P at_ e).2.2⟩
  else if k = 6 then ⟨0, (rawS P at_ e n).1, (rawS P at_ e n).2.1, (rawS P at_ e n).2.2⟩
  else if k = 7 then ⟨0, (blobS P at_ e n).1, (blobS P at_ e n).2.1, (blobS P at_ e n).2.2⟩
  else ⟨0, [], at_, e⟩
theorem takeS_none (P : List UInt8) (at_ e : Nat) (k n : Int) (h : (k == 1) = false ∧ (k == 2) = false ∧ (k == 3) = false ∧ (k == 4) = false ∧ (k == 5) = false ∧ (k == 6) = false ∧ (k == 7) = false) : takeS P at_ e k n = ⟨0, [], at_, e⟩ := by
  simp only [beq_eq_false_iff_ne] at h
  unfold takeS widthF
  simp [h.1, h.2.1, h.2.2.1, h.2.2.2.1, h.2.2.2.2.1, h.2.2.2.2.2.1, h.2.2.2.2.2.2]
/-- what a reader's call for a thing leaves -/
structure TookAt (w w' : World) (F : Nat → Prop) (b : Nat) (P : List UInt8) (v : Value) (t : Took) : Prop where
  own : OB w' w.heap.size 5 v t.q
  rd : Rd w' F b P t.at_ t.e
  step : Step w w' F F
theorem TookAt.of_num {w w1 w' : World} {F : Nat → Prop} {b : Nat} {P : List UInt8} {x a2 e2 : Nat} (hb : Below w.heap.size w w1) (hr : Rd w' F b P a2 e2) (hg : w1.grownBy w' (some b)) (hF : F b) : TookAt w w' F b P (.slice none 0 0) ⟨x, [], a2, e2⟩ :=
  ⟨OB.nil _ _ _, hr, Step.ahead hb (Step.of_grown hg hF)⟩
theorem TookAt.of_got {w w1 w' : World} {F : Nat → Prop} {b : Nat} {P q : List UInt8} {v : Value} {a2 e2 : Nat} (hb : Below w.heap.size w w1) (hg : Got w1 w' F b P v (q, a2, e2)) (hF : F b) : TookAt w w' F b P v ⟨0, q, a2, e2⟩ :=
  ⟨hg.own.mono hb.size, hg.rd, Step.ahead hb (Step.of_grown hg.grown hF)⟩

set_option maxHeartbeats 400000 in
set_option maxRecDepth 100000 in
theorem wtake_calls (F : Nat → Prop) (b : Nat) (P : List UInt8) (at_ e : Nat) (k : Int) (v : Nat) (n : Int) (A : Option Addr) (m c : Nat) (w : World) (hr : Rd w F b P at_ e) (hl : P.length ≤ 140737488355328) (hn : n ≤ 9223372036854775807) (t : Took) (ht : takeS P at_ e k n = t) (V : Int) (hV : V = t.v) (N : Nat) (hN : N = t.q.length) :
    Calls Try.prog 45 #[.pointer (some ⟨b, 0, none⟩), .agg #[.int .i64 k, .int .u64 v, .int .i64 n, .slice A m c]] w fun e' w' => ∃ A' c', e' = .returned (.tuple #[.int .u64 V, .slice A' N c']) ∧ TookAt w w' F b P (.slice A' N c') t := by
  subst hV
  subst hN
  have HB := Lib.hid (below_alloc1 (Below.refl w.heap.size w) (Nat.le_refl _) (.cells #[.int .i64 k, .int .u64 v, .int .i64 n, .slice A m c] 79))
  have HR := Lib.hid (hr.new HB.out)
  have HF := Lib.hid hr.lo
  have hl2 : P.length ≤ 9223372036854775807 := by omega
  rcases kinds k with rfl | rfl | rfl | rfl | rfl | rfl | rfl | hk
  · have hx : takeS P at_ e 1 n = ⟨(numS P at_ e 1).1, [], (numS P at_ e 1).2.1, (numS P at_ e 1).2.2⟩ := rfl
    have hlt := numS_lt P at_ e 1
    have hc := fun w' (h : Rd w' F b P at_ e) => ru8_calls F b P at_ e w' h hl2
    generalize numS P at_ e 1 = r at *
    obtain ⟨x, a2, e2⟩ := r
    have HC := Lib.hid hc
    have hx2 := ht.symm.trans hx
    clear hc hx ht
    subst hx2
    have hx8 : x ≤ 255 := by simpa using Nat.le_of_lt_succ hlt
    clear hlt
    go_enter Try.func45, Try.ntmps45
    go_wp2_with (go_at_call 40; (with_reducible refine (HC.out _ HR.out).mono ?_); rintro e1 w1 ⟨rfl, hr1, hg1⟩)
    go_ret2
    exact ⟨none, 0, rfl, TookAt.of_num HB.out hr1 hg1 HF.out⟩
  · have hx : takeS P at_ e 2 n = ⟨(numS P at_ e 2).1, [], (numS P at_ e 2).2.1, (numS P at_ e 2).2.2⟩ := rfl
    have hlt := numS_lt P at_ e 2
    have hc := fun w' (h : Rd w' F b P at_ e) => ru16_calls F b P at_ e w' h hl2
    generalize numS P at_ e 2 = r at *
    obtain ⟨x, a2, e2⟩ := r
    have HC := Lib.hid hc
    have hx2 := ht.symm.trans hx
    clear hc hx ht
    subst hx2
    have hx8 : x ≤ 65535 := by simpa using Nat.le_of_lt_succ hlt
    clear hlt
    go_enter Try.func45, Try.ntmps45
    go_wp2_with (go_at_call 72; (with_reducible refine (HC.out _ HR.out).mono ?_); rintro e1 w1 ⟨rfl, hr1, hg1⟩)
    go_ret2
    exact ⟨none, 0, rfl, TookAt.of_num HB.out hr1 hg1 HF.out⟩
  · have hx : takeS P at_ e 3 n = ⟨(numS P at_ e 4).1, [], (numS P at_ e 4).2.1, (numS P at_ e 4).2.2⟩ := rfl
    have hlt := numS_lt P at_ e 4
    have hc := fun w' (h : Rd w' F b P at_ e) => ru32_calls F b P at_ e w' h hl2
    generalize numS P at_ e 4 = r at *
    obtain ⟨x, a2, e2⟩ := r
    have HC := Lib.hid hc
    have hx2 := ht.symm.trans hx
    clear hc hx ht
    subst hx2
    have hx8 : x ≤ 4294967295 := by simpa using Nat.le_of_lt_succ hlt
    clear hlt
    go_enter Try.func45, Try.ntmps45
    go_wp2_with (go_at_call 48; (with_reducible refine (HC.out _ HR.out).mono ?_); rintro e1 w1 ⟨rfl, hr1, hg1⟩)
    go_ret2
    exact ⟨none, 0, rfl, TookAt.of_num HB.out hr1 hg1 HF.out⟩
  · have hx : takeS P at_ e 4 n = ⟨(numS P at_ e 8).1, [], (numS P at_ e 8).2.1, (numS P at_ e 8).2.2⟩ := rfl
    have hc := fun w' (h : Rd w' F b P at_ e) => ru64_calls F b P at_ e w' h hl2
    generalize numS P at_ e 8 = r at *
    obtain ⟨x, a2, e2⟩ := r
    have HC := Lib.hid hc
    have hx2 := ht.symm.trans hx
    clear hc hx ht
    subst hx2
    go_enter Try.func45, Try.ntmps45
    go_wp2_with (go_at_call 49; (with_reducible refine (HC.out _ HR.out).mono ?_); rintro e1 w1 ⟨rfl, hr1, hg1⟩)
    go_ret2
    exact ⟨none, 0, rfl, TookAt.of_num HB.out hr1 hg1 HF.out⟩
  · have hx : takeS P at_ e 5 n = ⟨(uvarS P at_ e).1, [], (uvarS P at_ e).2.1, (uvarS P at_ e).2.2⟩ := rfl
    have hc := fun w' (h : Rd w' F b P at_ e) => ruvar_calls F b P at_ e w' h hl2
    generalize uvarS P at_ e = r at *
    obtain ⟨x, a2, e2⟩ := r
    have HC := Lib.hid hc
    have hx2 := ht.symm.trans hx
    clear hc hx ht
    subst hx2
    go_enter Try.func45, Try.ntmps45
    go_wp2_with (go_at_call 36; (with_reducible refine (HC.out _ HR.out).mono ?_); rintro e1 w1 ⟨rfl, hr1, hg1⟩)
    go_ret2
    exact ⟨none, 0, rfl, TookAt.of_num HB.out hr1 hg1 HF.out⟩
  · have hx : takeS P at_ e 6 n = ⟨0, (rawS P at_ e n).1, (rawS P at_ e n).2.1, (rawS P at_ e n).2.2⟩ := rfl
    have hc := fun w' (h : Rd w' F b P at_ e) => rraw_calls F b P at_ e n w' h hl hn
    generalize rawS P at_ e n = r at *
    obtain ⟨x, a2, e2⟩ := r
    have HC := Lib.hid hc
    have hx2 := ht.symm.trans hx
    clear hc hx ht
    subst hx2
    go_enter Try.func45, Try.ntmps45
    go_wp2_with (go_at_call 73; (with_reducible refine (HC.out _ HR.out).mono ?_); rintro e1 w1 ⟨A1, c1, rfl, hg1⟩)
    go_ret2
    exact ⟨A1, c1, rfl, TookAt.of_got HB.out hg1 HF.out⟩
  · have hx : takeS P at_ e 7 n = ⟨0, (blobS P at_ e n).1, (blobS P at_ e n).2.1, (blobS P at_ e n).2.2⟩ := rfl
    have hc := fun w' (h : Rd w' F b P at_ e) => rblob_calls F b P at_ e n w' h hl hn
    generalize blobS P at_ e n = r at *
    obtain ⟨x, a2, e2⟩ := r
    have HC := Lib.hid hc
    have hx2 := ht.symm.trans hx
    clear hc hx ht
    subst hx2
    go_enter Try.func45, Try.ntmps45
    go_wp2_with (go_at_call 74; (with_reducible refine (HC.out _ HR.out).mono ?_); rintro e1 w1 ⟨A1, c1, rfl, hg1⟩)
    go_ret2
    exact ⟨A1, c1, rfl, TookAt.of_got HB.out hg1 HF.out⟩
  · have hx := ht.symm.trans (takeS_none P at_ e k n hk)
    obtain ⟨b1, b2, b3, b4, b5, b6, b7⟩ := hk
    subst hx
    clear ht
    go_enter Try.func45, Try.ntmps45
    go_wp2
    go_ret2
    exact ⟨none, 0, rfl, OB.nil _ _ _, HR.out, Step.of_below HB.out F⟩
end Go.Proofs.Ytlcbjjgmkllceaa
