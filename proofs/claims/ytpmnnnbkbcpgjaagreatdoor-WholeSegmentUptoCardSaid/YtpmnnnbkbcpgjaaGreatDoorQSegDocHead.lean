import Derived.Test.YtpmnnnbkbcpgjaaGreatDoorQBh
import Derived.Test.YtpmnnnbkbcpgjaaGreatDoorQBb
import Derived.Test.YtpmnnnbkbcpgjaaGreatDoorQBe
import Derived.Test.YtpmnnnbkbcpgjaaGreatDoorQBi
/- The walks of the document's head: magic, HeadBytes, DocEncodeHead. -/
namespace Go.Proofs.YtpmnnnbkbcpgjaaGreatDoor
open Go.RowKit
open WireMath (wideL)
open FrameMath (laid)

theorem magic_calls (w : World) : Calls Tryz.prog 82 #[] w fun e w' => ∃ A c, e = .returned (.slice A 5 c) ∧ RB w' A c magicL ∧ Below w.heap.size w w' := by
  have kc1 := Lib.run_convert_bytes_const (P := Tryz.prog) w 36 5 #[.int .u8 78, .int .u8 84, .int .u8 82, .int .u8 89, .int .u8 49] 5 5 Tryz.underlying36 Tryz.underlying5
  go_enter Tryz.func82, Tryz.ntmps82
  go_wp2
  go_ret
  exact ⟨_, _, rfl, RB.litF w 5 (5, 6) #[.int .u8 78, .int .u8 84, .int .u8 82, .int .u8 89, .int .u8 49] magicL rfl 5 rfl (by decide) w.heap.size rfl, below_alloc1 (Below.refl _ _) (Nat.le_refl _) _⟩
def r8L (h : HdV) : List Value := [.int .u64 h.n, .int .u64 h.ep, .int .u64 h.f, .int .i64 h.w]
set_option maxHeartbeats 800000 in
set_option maxRecDepth 100000 in
theorem headBytes_calls (h : HdV) (h1 : h.n ≤ 18446744073709551615) (h2 : h.ep ≤ 18446744073709551615) (h3 : h.f ≤ 18446744073709551615) (h4 : h.w ≤ 255) (x : Int) (hx : x = h.w) (w : World) :
    Calls Tryz.prog 51 #[.agg #[.int .u64 h.n, .int .u64 h.ep, .int .u64 h.f, .int .i64 x]] w fun e w' => ∃ A c, e = .returned (.slice A 48 c) ∧ NewB w w' (.slice A 48 c) (headL h) := by
  subst hx
  have h8 := Lib.hid (show (8 : Int) = ((8 : Nat) : Int) from rfl)
  have B0 := below_alloc1 (Below.refl w.heap.size w) (Nat.le_refl _) (.cells #[.int .u64 h.n, .int .u64 h.ep, .int .u64 h.f, .int .i64 h.w] 41)
  have R0 := Row.fresh w w.heap.size rfl 41 [.int .u64 h.n, .int .u64 h.ep, .int .u64 h.f, .int .i64 h.w] #[.int .u64 h.n, .int .u64 h.ep, .int .u64 h.f, .int .i64 h.w] rfl
  have QB := Lib.hid ((bgB B0).and (bgRow R0)).dr
  have x0 := QB.out.h.2.c 0 _ rfl
  have hwx : IntKind.u8.wrap (h.w : Int) = (h.w : Int) := by rw [IntKind.wrap_u8]; omega
  have l8 : ∀ v, (wideL v 8).length = 8 := fun v => WireMath.wideL_length v 8
  have LM : Hid (magicL.length = 5) := Lib.hid rfl
  have L8 := Lib.hid l8
  have J1 := Lib.hid (show (magicL ++ wideL h.n 8).length = 13 by rw [List.length_append, LM.out, l8])
  have J2 := Lib.hid (show (wideL h.ep 8 ++ wideL h.f 8).length = 16 by rw [List.length_append, l8, l8])
  have J3 := Lib.hid (show (magicL ++ wideL h.n 8 ++ (wideL h.ep 8 ++ wideL h.f 8)).length = 29 by rw [List.length_append, J1.out, J2.out])
  have E4 := Lib.hid (show magicL ++ wideL h.n 8 ++ (wideL h.ep 8 ++ wideL h.f 8) ++ [UInt8.ofNat h.w] = headPay h by simp [headPay])
  have HPL := Lib.hid (headPay_length h)
  have HUB := Lib.hid (show (h.w : Int) = uB (UInt8.ofNat h.w) by rw [uB_ofNat]; omega)
  have HLD : Hid (laid h.n (headPay h) = headL h) := Lib.hid rfl
  generalize headPay h = pay at *
  generalize headL h = hd at *
  clear B0 R0 l8
  go_enter Tryz.func51, Tryz.ntmps51
  go_wp2_with fail
  go_region_held3 (fun w' => w'.cell? ⟨w.heap.size, 0, none⟩ = some (.int .u64 h.n)) (go_keep) (first
    | (go_at_call 82; go_loud (with_reducible refine (magic_calls _).mono ?_); rintro e1 wm ⟨Am, cm, rfl, hm, bm⟩; (try replace QW := Lib.hid (QW.out.step bm)); have QM := Lib.hid (bgRB hm); replace QB := Lib.hid (QB.out.step bm); have x0 := QB.out.h.2.c 0 _ rfl)
    | (go_at_call 83; go_loud (with_reducible refine (refwide_calls h.n 8 _ _ rfl h8.out _ h1 (by decide)).mono ?_); rintro e2 ww ⟨Aw, cw, rfl, hw⟩; (try replace QM := Lib.hid (QM.out.step hw.below)); have QW := Lib.hid (bgRB hw.own.rb); replace QB := Lib.hid (QB.out.step hw.below); have x0 := QB.out.h.2.c 0 _ rfl)
    | (go_at_call 30; go_loud (with_reducible refine (joinE Am Aw magicL (wideL h.n 8) _ 5 8 13 cm cw _ QM.out.h QW.out.h LM.out.symm (L8.out _).symm J1.out.symm rfl (by rw [LM.out, L8.out]; decide)).mono ?_); rintro e3 w3 ⟨A3, c3, rfl, hn3⟩; replace QB := Lib.hid (QB.out.step hn3.below); have Q3 := Lib.hid hn3.own.rb; have x0 := QB.out.h.2.c 0 _ rfl))
  all_goals
    clear hm bm hw hn3 QM QW x0
    replace QB := Lib.hid QB.out.dr
    replace Q3 := Lib.hid (bgRB Q3.out).dr
    have x1 := QB.out.h.2.c 1 _ rfl
    have x2 := QB.out.h.2.c 2 _ rfl
    go_wp2_with fail
    go_region_held3 (fun w' => w'.cell? ⟨w.heap.size, 1, none⟩ = some (.int .u64 h.ep) ∧ w'.cell? ⟨w.heap.size, 2, none⟩ = some (.int .u64 h.f)) (go_keep) (first
      | (go_at_call 83; (with_reducible refine (refwide_calls h.ep 8 _ _ rfl h8.out _ h2 (by decide)).mono ?_); rintro e4 w4 ⟨A4, c4, rfl, hn4⟩; (try replace QV := Lib.hid (QV.out.step hn4.below)); replace Q3 := Lib.hid (Q3.out.step hn4.below); have QW := Lib.hid (bgRB hn4.own.rb); replace QB := Lib.hid (QB.out.step hn4.below); have x1 := QB.out.h.2.c 1 _ rfl; have x2 := QB.out.h.2.c 2 _ rfl)
      | (go_at_call 83; (with_reducible refine (refwide_calls h.f 8 _ _ rfl h8.out _ h3 (by decide)).mono ?_); rintro e5 w5 ⟨A5, c5, rfl, hn5⟩; (try replace QW := Lib.hid (QW.out.step hn5.below)); replace Q3 := Lib.hid (Q3.out.step hn5.below); have QV := Lib.hid (bgRB hn5.own.rb); replace QB := Lib.hid (QB.out.step hn5.below); have x1 := QB.out.h.2.c 1 _ rfl; have x2 := QB.out.h.2.c 2 _ rfl)
      | (go_at_call 30; (with_reducible refine (joinE A4 A5 (wideL h.ep 8) (wideL h.f 8) _ 8 8 16 c4 c5 _ QW.out.h QV.out.h (L8.out _).symm (L8.out _).symm J2.out.symm rfl (by rw [L8.out, L8.out]; decide)).mono ?_); rintro e6 w6 ⟨A6, c6, rfl, hn6⟩; replace Q3 := Lib.hid (Q3.out.step hn6.below); have Q6 := Lib.hid (bgRB hn6.own.rb); replace QB := Lib.hid (QB.out.step hn6.below); have x1 := QB.out.h.2.c 1 _ rfl; have x2 := QB.out.h.2.c 2 _ rfl)
      | (go_at_call 30; (with_reducible refine (joinE A3 A6 (magicL ++ wideL h.n 8) (wideL h.ep 8 ++ wideL h.f 8) _ 13 16 29 c3 c6 _ Q3.out.h Q6.out.h J1.out.symm J2.out.symm J3.out.symm rfl (by rw [J1.out, J2.out]; decide)).mono ?_); rintro e7 w7 ⟨A7, c7, rfl, hn7⟩; have Q7 := Lib.hid (bgRB hn7.own.rb); replace QB := Lib.hid (QB.out.step hn7.below); have x1 := QB.out.h.2.c 1 _ rfl; have x2 := QB.out.h.2.c 2 _ rfl))
  all_goals
    clear hn4 hn5 hn6 hn7 QW QV Q3 Q6 x1 x2
    have x0 := QB.out.dr.h.2.c 0 _ rfl
    have x3 := QB.out.dr.h.2.c 3 _ rfl
    replace QB := Lib.hid (QB.out.al (.cells #[.int .u8 h.w] 5)).dr
    replace Q7 := Lib.hid (Q7.out.al (.cells #[.int .u8 h.w] 5)).dr
    have QO := Lib.hid (RB.oneAt w7 5 (UInt8.ofNat h.w) _ HUB.out w7.heap.size rfl).drewE
    have y0 := QB.out.h.2.c 0 _ rfl
    have y3 := QB.out.h.2.c 3 _ rfl
    go_wp2_with fail
    go_region_held3 (fun w' => w'.cell? ⟨w.heap.size, 0, none⟩ = some (.int .u64 h.n) ∧ w'.cell? ⟨w.heap.size, 3, none⟩ = some (.int .i64 h.w)) (first | exact ⟨x0, x3⟩ | exact ⟨y0, y3⟩ | go_keep) (first
      | (go_at_call 30; go_loud (with_reducible refine (joinE A7 _ (magicL ++ wideL h.n 8 ++ (wideL h.ep 8 ++ wideL h.f 8)) [UInt8.ofNat h.w] pay 29 1 30 c7 1 _ Q7.out.h QO.out J3.out.symm rfl HPL.out.symm E4.out (by rw [J3.out, List.length_singleton]; decide)).mono ?_); rintro e8 w8 ⟨A8, c8, rfl, hn8⟩; replace QB := Lib.hid (QB.out.step hn8.below); have x0 := QB.out.h.2.c 0 _ rfl; have x3 := QB.out.h.2.c 3 _ rfl)
      | (go_at_call 55; go_loud (with_reducible refine (reflaid_calls h.n _ rfl h1 A8 pay 30 c8 _ hn8.own.rb HPL.out.symm (by rw [HPL.out]; decide)).mono ?_); rintro e9 w9 ⟨A9, c9, rfl, hn9⟩; rw [HLD.out] at hn9; have QB9 := Lib.hid (QB.out.step hn9.below); have x0 := QB9.out.h.2.c 0 _ rfl; have x3 := QB9.out.h.2.c 3 _ rfl))
  all_goals
    go_wp2
    go_ret
    exact ⟨A9, c9, rfl, hn9.own.mono QB.out.h.1.size, QB9.out.h.1⟩
theorem docWide_calls (x : Int) (r : Bool) (hr : decide (1 ≤ x ∧ x ≤ 32) = r) (w : World) :
    Calls Tryz.prog 50 #[.int .i64 x] w fun e w' => e = .returned (.bool r) ∧ w = w' := by
  have HR := Lib.hid hr
  clear hr
  by_cases h1 : 1 ≤ x
  · by_cases h2 : x ≤ 32
    · go_enter Tryz.func50, Tryz.ntmps50
      go_wp2
      go_ret
      exact ⟨ret_bool (by rw [← HR.out]; symm; rw [decide_eq_true_iff]; exact ⟨h1, h2⟩), rfl⟩
    · go_enter Tryz.func50, Tryz.ntmps50
      go_wp2
      go_ret
      exact ⟨ret_bool (by rw [← HR.out]; symm; rw [decide_eq_false_iff_not]; omega), rfl⟩
  · go_enter Tryz.func50, Tryz.ntmps50
    go_wp2
    go_ret
    exact ⟨ret_bool (by rw [← HR.out]; symm; rw [decide_eq_false_iff_not]; omega), rfl⟩
set_option maxRecDepth 100000 in
theorem docHeadN (n ep f : Nat) (x : Int) (hn : n ≤ 18446744073709551615) (hep : ep ≤ 18446744073709551615) (hf : f ≤ 18446744073709551615) (q : List UInt8) (e : Nat) (hq : encH n ep f x = (q, e)) (m : Nat) (hm : m = q.length) (w : World) :
    Calls Tryz.prog 18 #[.agg #[.int .u64 n, .int .u64 ep, .int .u64 f, .int .i64 x]] w fun r w' => ∃ A c, r = .returned (.tuple #[.slice A m c, .int .i64 e]) ∧ NewB w w' (.slice A m c) q := by
  subst hm
  unfold encH at hq
  have HB := Lib.hid (below_alloc1 (Below.refl w.heap.size w) (Nat.le_refl _) (.cells #[.int .u64 n, .int .u64 ep, .int .u64 f, .int .i64 x] 41))
  have R0 := Row.fresh w w.heap.size rfl 41 [.int .u64 n, .int .u64 ep, .int .u64 f, .int .i64 x] #[.int .u64 n, .int .u64 ep, .int .u64 f, .int .i64 x] rfl
  have c0 := R0.c 0 _ rfl
  have c1 := R0.c 1 _ rfl
  have c2 := R0.c 2 _ rfl
  have c3 := R0.c 3 _ rfl
  clear R0
  by_cases hx : 1 ≤ x ∧ x ≤ 32
  · rw [if_pos hx] at hq
    obtain ⟨rfl, rfl⟩ := Prod.mk.inj hq
    have HW := Lib.hid (show decide (1 ≤ x ∧ x ≤ 32) = true by rw [decide_eq_true_iff]; exact hx)
    have HH := Lib.hid (fun w => headBytes_calls ⟨n, ep, f, x.toNat⟩ hn hep hf (by show x.toNat ≤ 255; omega) x (by show x = ((x.toNat : Nat) : Int); omega) w)
    simp only at HH
    rw [headL_length]
    generalize headL ⟨n, ep, f, x.toNat⟩ = hd at *
    clear hx hq
    go_enter Tryz.func18, Tryz.ntmps18
    go_wp2_with (first
      | (go_at_call 50; (with_reducible refine (docWide_calls x true HW.out _).mono ?_); rintro e1 w1 ⟨rfl, rfl⟩)
      | (go_at_call 51; go_loud (with_reducible refine (HH.out _).mono ?_); rintro e2 w2 ⟨A2, c2', rfl, hn2⟩))
    go_ret2
    exact ⟨A2, c2', rfl, hn2.own.mono HB.out.size, below_then HB.out hn2.below⟩
  · rw [if_neg hx] at hq
    obtain ⟨rfl, rfl⟩ := Prod.mk.inj hq
    have HW := Lib.hid (show decide (1 ≤ x ∧ x ≤ 32) = false by rw [decide_eq_false_iff_not]; exact hx)
    clear hx hq
    go_enter Tryz.func18, Tryz.ntmps18
    go_wp2_with (go_at_call 50; (with_reducible refine (docWide_calls x false HW.out _).mono ?_); rintro e1 w1 ⟨rfl, rfl⟩)
    go_ret2
    exact ⟨none, 0, rfl, OB.nil _ _ _, HB.out⟩
set_option maxRecDepth 100000 in
theorem docSegB_calls (f : Nat) (V : Int) (hV : V = f) (hf : f ≤ 18446744073709551615) (A : Option Addr) (n c : Nat) (es : List EnX) (w : World) (h : Ents w A es) (hn : n = es.length) (hl : n ≤ 9223372036854775807) (q : List UInt8) (e : Nat) (hq : segB f (ensOf es) = (q, e)) (m : Nat) (hm : m = q.length) :
    Calls Tryz.prog 22 #[.agg #[.int .u64 V, .slice A n c]] w fun r w' => ∃ A' c', r = .returned (.tuple #[.slice A' m c', .int .i64 e]) ∧ NewB w w' (.slice A' m c') q := by
  subst hV; subst hm
  unfold segB at hq
  have HB := Lib.hid (below_alloc1 (Below.refl w.heap.size w) (Nat.le_refl _) (.cells #[.int .u64 f, .slice A n c] 35))
  have T0 := Duo.fresh w w.heap.size rfl (.int .u64 f) (.slice A n c) 35
  have HE := Lib.hid (h.new HB.out)
  have c0 := T0.c0
  have c1 := T0.c1
  have HT := Lib.hid T0
  obtain ⟨p, e1, hp⟩ : ∃ p e1, encBF f (ensOf es) = (p, e1) := ⟨_, _, rfl⟩
  rw [hp] at hq
  simp only at hq
  have HP := Lib.hid hp
  have HN := Lib.hid hn
  clear T0 hn
  by_cases h0 : e1 = 0
  · subst h0
    rw [if_pos rfl] at hq
    obtain ⟨rfl, rfl⟩ := Prod.mk.inj hq
    have hpl := (encBF_small f _ p hp).2
    have HPL : Hid (p.length ≤ 65535) := Lib.hid (by omega)
    rw [FrameMath.laid_length]
    clear hp hq hpl
    go_enter Tryz.func22, Tryz.ntmps22
    go_wp2_with (first
      | (go_at_call 54; go_loud (with_reducible refine (docEncB_calls f _ rfl hf A n c es _ HE.out HN.out hl p 0 HP.out).mono ?_); rintro r1 w1 ⟨A1, c1', rfl, hn1⟩; have T1 := HT.out.new hn1.below; have d0 := T1.c0; have B1 := Lib.hid (below_then HB.out hn1.below))
      | (go_at_call 55; go_loud (with_reducible refine (reflaid_calls f _ rfl hf A1 p _ c1' _ hn1.own.rb rfl HPL.out).mono ?_); rintro r2 w2 ⟨A2, c2, rfl, hn2⟩))
    go_ret2
    exact ⟨A2, c2, rfl, hn2.own.mono B1.out.size, below_then B1.out hn2.below⟩
  · rw [if_neg h0] at hq
    obtain ⟨rfl, rfl⟩ := Prod.mk.inj hq
    have hb : ((e1 : Int) != 0) = true := by rw [bne_iff_ne]; omega
    clear hp hq h0
    go_enter Tryz.func22, Tryz.ntmps22
    go_wp2_with (first
      | (go_at_call 54; go_loud (with_reducible refine (docEncB_calls f _ rfl hf A n c es _ HE.out HN.out hl p e1 HP.out).mono ?_); rintro r1 w1 ⟨A1, c1', rfl, hn1⟩; have B1 := Lib.hid (below_then HB.out hn1.below)))
    go_ret2
    exact ⟨none, 0, rfl, OB.nil _ _ _, B1.out⟩
end Go.Proofs.YtpmnnnbkbcpgjaaGreatDoor
