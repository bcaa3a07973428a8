/- What the laws of layer 7 share: made, same, awake. -/
import Derived.Test.YtdpmalegpjimfabFrameMath
import Derived.Test.YtdpmalegpjimfabMemWalk
namespace Go.Proofs.Ytdpmalegpjimfab
open Go.RowKit
open WireMath (wideL)
open FrameMath (head crcP laid)

theorem made_calls (place : Nat) (hpl : place ≤ 18446744073709551615) (A : Option Addr) (p : List UInt8) (n c : Nat) (w : World) (hp : RB w A c p) (hn : n = p.length) (hl : p.length ≤ 140737488355328) :
    Calls Try.prog 14 #[.int .u64 place, .slice A n c] w fun e w' => ∃ A' c', e = .returned (.tuple #[.slice A' (encF place p).1.length c', .int .i64 (encF place p).2]) ∧ NewB w w' (.slice A' (encF place p).1.length c') (encF place p).1 := by
  subst hn
  have hcall := fun w' (h : Below w.heap.size w w') => encode_calls place hpl A p p.length c w' (hp.new h) rfl hl
  generalize encF place p = r at *
  have HC := Lib.hid hcall
  clear hcall
  go_enter Try.func14, Try.ntmps14
  go_wp2_with (go_at_call 34; (with_reducible refine (HC.out _ (Below.refl _ _)).mono ?_); rintro e w2 ⟨A2, c2, rfl, hn2⟩)
  go_ret2
  exact ⟨A2, c2, rfl, hn2⟩
theorem fsame_calls (a b : Nat) (A B : Option Addr) (p q : List UInt8) (n m c d : Nat) (w : World) (hp : RB w A c p) (hq : RB w B d q) (hn : n = p.length) (hm : m = q.length) (r : Bool) (hr : (decide (a = b) && (p == q)) = r) :
    Calls Try.prog 22 #[.agg #[.int .u64 a, .slice A n c], .int .u64 b, .slice B m d] w fun e w' => e = .returned (.bool r) ∧ Below w.heap.size w w' := by
  subst hn; subst hm
  have HF := Lib.hid (below_alloc1 (Below.refl w.heap.size w) (Nat.le_refl _) (.cells #[.int .u64 a, .slice A p.length c] 33))
  by_cases hab : a = b
  · have hb : ((a : Int) == (b : Int)) = true := by rw [hab]; simp
    have HR := Lib.hid (show (p == q) = r by rw [← hr, hab]; simp)
    clear hr hab
    go_enter Try.func22, Try.ntmps22
    go_wp2_with (go_at_call 32; (with_reducible refine (sameR A B p q p.length q.length c d _ (hp.new HF.out) (hq.new HF.out) rfl rfl r HR.out).mono ?_); rintro e w2 ⟨rfl, hd⟩)
    go_ret
    exact ⟨rfl, HF.out.trans (hd.below _)⟩
  · have hb : ((a : Int) == (b : Int)) = false := by rw [beq_eq_false_iff_ne]; omega
    have HR := Lib.hid (show false = r by rw [← hr]; simp [hab])
    clear hr hab
    go_enter Try.func22, Try.ntmps22
    go_wp2
    go_ret
    exact ⟨ret_bool HR.out, HF.out⟩
theorem fempty_calls (a : Nat) (A : Option Addr) (p : List UInt8) (n c : Nat) (w : World) (hp : RB w A c p) (hn : n = p.length) (r : Bool) (hr : (decide (a = 0) && (p == [])) = r) :
    Calls Try.prog 20 #[.agg #[.int .u64 a, .slice A n c]] w fun e w' => e = .returned (.bool r) ∧ Below w.heap.size w w' := by
  subst hn
  have HF := Lib.hid (below_alloc1 (Below.refl w.heap.size w) (Nat.le_refl _) (.cells #[.int .u64 a, .slice A p.length c] 33))
  have hz := Lib.hid (show (0 : Int) = ((0 : Nat) : Int) from rfl)
  have hcall := fun w' (h : Below w.heap.size w w') (z : Int) (hz : z = ((0 : Nat) : Int)) => (show Calls Try.prog 22 #[.agg #[.int .u64 a, .slice A p.length c], .int .u64 z, .slice none 0 0] w' fun e w'' => e = .returned (.bool r) ∧ Below w'.heap.size w' w'' by subst hz; exact fsame_calls a 0 A none p [] p.length 0 c 0 w' (hp.new h) (RB.void w') rfl rfl r hr)
  have HC := Lib.hid hcall
  clear hcall
  go_enter Try.func20, Try.ntmps20
  go_wp2_with (go_at_call 22; (with_reducible refine (HC.out _ HF.out _ hz.out).mono ?_); rintro e w2 ⟨rfl, hd⟩)
  go_ret
  exact ⟨rfl, below_then HF.out hd⟩
/-- a frame that can be made -/
theorem made_ok (place : Nat) (V : Int) (hV : V = place) (hpl : place ≤ 18446744073709551615) (A : Option Addr) (p L : List UInt8) (n N c : Nat) (w : World) (hp : RB w A c p) (hn : n = p.length) (h1 : 1 ≤ p.length) (h2 : p.length ≤ 65535) (hN : N = p.length + 18) (hL : laid place p = L) :
    Calls Try.prog 14 #[.int .u64 V, .slice A n c] w fun e w' => ∃ A' c', e = .returned (.tuple #[.slice A' N c', .int .i64 0]) ∧ NewB w w' (.slice A' N c') L := by
  subst hV; subst hL
  have hE : encF place p = (laid place p, 0) := by unfold encF; rw [if_neg (by omega), if_neg (by omega)]
  have := made_calls place hpl A p n c w hp hn (by omega)
  rw [hE] at this
  simp only [FrameMath.laid_length] at this
  rw [hN]
  exact this
theorem nextN (A : Option Addr) (P : List UInt8) (n c : Nat) (at_ : Int) (hat : -9223372036854775808 ≤ at_ ∧ at_ ≤ 9223372036854775807) (w : World) (hp : RB w A c P) (hn : n = P.length) (hl : P.length ≤ 281474976710656) (k pl m : Nat) (K Pl nx : Int) (pay : List UInt8) (hx : nextF P at_ = ⟨k, pl, pay, nx⟩) (hK : K = k) (hPl : Pl = pl) (hm : m = pay.length) :
    Calls Try.prog 18 #[.slice A n c, .int .i64 at_] w fun e w' => ∃ A' c', e = .returned (.tuple #[.agg #[.int .u64 Pl, .slice A' m c'], .int .i64 nx, .int .i64 K]) ∧ NewB w w' (.slice A' m c') pay := by
  subst hK; subst hPl; subst hm
  have := next_calls A P n c at_ hat w hp hn hl
  rw [hx] at this
  exact this
theorem fsameN (a b : Nat) (U V : Int) (A B : Option Addr) (p q : List UInt8) (n m c d : Nat) (w : World) (hp : RB w A c p) (hq : RB w B d q) (hn : n = p.length) (hm : m = q.length) (r : Bool) (hr : (decide (a = b) && (p == q)) = r) (hU : U = a) (hV : V = b) :
    Calls Try.prog 22 #[.agg #[.int .u64 U, .slice A n c], .int .u64 V, .slice B m d] w fun e w' => e = .returned (.bool r) ∧ Below w.heap.size w w' := by
  subst hU; subst hV; exact fsame_calls a b A B p q n m c d w hp hq hn hm r hr
theorem addr0 (a : Addr) : a.add 0 = a := by cases a; simp [Addr.add]
theorem RB.pick {w : World} {a : Addr} {c : Nat} {p : List UInt8} (h : RB w (some a) c p) (i : Nat) (v : UInt8) (hv : p[i]? = some v) : w.cell? (a.add i) = some (.int .u8 (uB v)) := by
  obtain ⟨hi, e⟩ := List.getElem?_eq_some_iff.1 hv
  obtain ⟨a', e', hc⟩ := h.at_ i hi
  obtain rfl := Option.some.inj e'
  rw [hc, e]
theorem RB.pickN {w : World} {a : Addr} {c : Nat} {p : List UInt8} (h : RB w (some a) c p) (i : Nat) (hi : 0 < i) (v : UInt8) (hv : p[i]? = some v) : w.cell? ⟨a.block, a.off + i, none⟩ = some (.int .u8 (uB v)) := by
  rw [← h.pick i v hv]
  congr 1
  unfold Addr.add
  split
  · omega
  · rfl
theorem alloc_size (w : World) (o : Obj) : (w.alloc o).heap.size = w.heap.size + 1 := Array.size_push ..
theorem RB.litAt (w : World) (e : TypeId) (C : Array Value) (p : List UInt8) (h : C = (encB p).toArray) (n : Nat) (hn : n = p.length) (hs : p.length ≤ 1000) (k : Nat) (hk : w.heap.size = k) : RB (w.alloc (.cells C e (0, 0))) (some ⟨k, 0, none⟩) n p := by
  subst hk; exact RB.lit w e (0, 0) C p h n hn hs
set_option maxRecDepth 100000 in
theorem fawake_calls (w : World) : Calls Try.prog 13 #[] w fun e w' => e = .returned (.bool true) ∧ Below w.heap.size w w' := by
  have h7 := Lib.hid (show (7 : Int) = ((7 : Nat) : Int) from rfl)
  have hk := Lib.hid (show (1 : Int) = ((1 : Nat) : Int) from rfl)
  have HL := Lib.hid (show (19 : Nat) = (laid 7 [9]).length by rw [FrameMath.laid_length]; rfl)
  have hs : (laid 7 [9]).length ≤ 140737488355328 := by rw [FrameMath.laid_length]; decide
  have HX := Lib.hid (show nextF (laid 7 [9]) 0 = ⟨1, 7, [9], 19⟩ by have := next_laid 7 [9] [] (by decide) (by decide) (by decide); rw [List.append_nil] at this; exact this)
  have b0 : (laid 7 [9])[0]? = some 0xf5 := rfl
  have b4 : (laid 7 [9])[4]? = some 1 := rfl
  have b12 : (laid 7 [9])[12]? = some 7 := rfl
  have b17 : (laid 7 [9])[17]? = some 9 := rfl
  have b18 : (laid 7 [9])[18]? = some 0x5f := rfl
  generalize hL : laid 7 [9] = L at *
  have HLD := Lib.hid hL
  have HB := Lib.hid b0
  have HB4 := Lib.hid b4
  have HB12 := Lib.hid b12
  have HB17 := Lib.hid b17
  have HB18 := Lib.hid b18
  have HS := Lib.hid hs
  clear hL b0 b4 b12 b17 b18 hs
  have e0 : uB 0xf5 = 245 := rfl
  have e4 : uB 1 = 1 := rfl
  have e12 : uB 7 = 7 := rfl
  have e17 : uB 9 = 9 := rfl
  have e18 : uB 0x5f = 95 := rfl
  have hlit := Lib.hid (fun (w : World) (e : TypeId) => RB.lit w e (0, 0) #[.int .u8 9] [9] rfl 1 rfl (by decide))
  go_enter Try.func13, Try.ntmps13
  go_wp2_with (first
    | (go_at_call 14; go_loud (with_reducible refine (made_ok 7 7 h7.out (by decide) _ [9] L 1 19 1 _ (hlit.out _ _) (by decide) (by decide) (by decide) (by decide) HLD.out).mono ?_); rintro e1 w1 ⟨A1, c1, rfl, hn1⟩; have hr1 := hn1.own.rb; obtain ⟨a1, rfl, hc0⟩ := hr1.at_ 0 (by rw [← HL.out]; decide); clear hc0; have p0 := hr1.pick 0 _ HB.out; have p4 := hr1.pickN 4 (by decide) _ HB4.out; have p12 := hr1.pickN 12 (by decide) _ HB12.out; have p17 := hr1.pickN 17 (by decide) _ HB17.out; have p18 := hr1.pickN 18 (by decide) _ HB18.out; rw [e0, addr0] at p0; rw [e4] at p4; rw [e12] at p12; rw [e17] at p17; rw [e18] at p18)
    | (go_at_call 18; go_loud (with_reducible refine (nextN (some a1) L 19 c1 0 (by decide) _ hr1 HL.out (Nat.le_trans HS.out (by decide)) 1 7 1 1 7 19 [9] HX.out hk.out h7.out (by decide)).mono ?_); rintro e2 w2 ⟨A2, c2, rfl, hn2⟩)
    | (go_at_call 22; go_loud (with_reducible refine (fsameN 7 7 7 7 A2 _ [9] [9] 1 1 c2 1 _ ((hn2.own.rb.alloc _).alloc _) (RB.litAt (w2.alloc (.cells #[.int .u64 7, .slice A2 1 c2] 33)) 5 #[.int .u8 9] [9] rfl 1 (by decide) (by decide) (w2.heap.size + 1) (alloc_size _ _)) (by decide) (by decide) true (by decide) h7.out h7.out).mono ?_); rintro e3 w3 ⟨rfl, hb3⟩))
  go_ret
  have B1 := below_then (below_alloc1 (Below.refl w.heap.size w) (Nat.le_refl _) (.cells #[.int .u8 9] 5)) hn1.below
  have B2 := below_then B1 hn2.below
  have B3 := B2.alloc B2.size (.cells #[.int .u64 7, .slice A2 1 c2] 33)
  exact ⟨rfl, below_then (B3.alloc B3.size _) hb3⟩
end Go.Proofs.Ytdpmalegpjimfab
