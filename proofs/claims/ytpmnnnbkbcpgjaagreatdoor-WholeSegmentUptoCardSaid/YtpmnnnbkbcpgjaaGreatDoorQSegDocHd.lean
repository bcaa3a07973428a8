import Derived.Test.YtpmnnnbkbcpgjaaGreatDoorQSegDocHead
import Derived.Test.YtpmnnnbkbcpgjaaGreatDoorQBh
import Derived.Test.YtpmnnnbkbcpgjaaGreatDoorQBe
/- The walk of the document's head (layer 8). -/
namespace Go.Proofs.YtpmnnnbkbcpgjaaGreatDoor
open Go.RowKit
open WireMath (wideL numS beN rawS)
open FrameMath (laid)

/-- the boxes of the document's head: the frame, the result, the head, the reader -/
structure DH (w0 w : World) (B H R : List Value) : Prop where
  box : Row w w0.heap.size 110 B
  res : Row w (w0.heap.size + 1) 41 [.int .u64 0, .int .u64 0, .int .u64 0, .int .i64 0]
  hd : Row w (w0.heap.size + 1 + 1) 41 H
  rd : Row w (w0.heap.size + 1 + 1 + 1) 162 R
  below : Below w0.heap.size w0 w
theorem DH.new {w0 w w' : World} {B H R : List Value} (h : DH w0 w B H R) (hb : Below w.heap.size w w') : DH w0 w' B H R := ⟨h.box.new hb, h.res.new hb, h.hd.new hb, h.rd.new hb, below_then h.below hb⟩
theorem Row.far {w : World} {g k j : Nat} {T : TypeId} {L : List Value} {v : Value} (h : Row w g T L) (hne : g ≠ k) : Row (w.setCell ⟨k, j, none⟩ v) g T L := h.grown (setCell_grown _ _ _ _) hne
theorem DH.setH {w0 w : World} {B H R : List Value} (h : DH w0 w B H R) (j : Nat) (v : Value) (H' : List Value) (hH : H.set j v = H') : DH w0 (w.setCell ⟨w0.heap.size + 1 + 1, j, none⟩ v) B H' R :=
  ⟨h.box.far (by omega), h.res.far (by omega), h.hd.set j v _ hH, h.rd.far (by omega), h.below.setCell (by show w0.heap.size ≤ w0.heap.size + 1 + 1; omega) _⟩
theorem DH.setR {w0 w : World} {B H R : List Value} (h : DH w0 w B H R) (j : Nat) (v : Value) (R' : List Value) (hR : R.set j v = R') : DH w0 (w.setCell ⟨w0.heap.size + 1 + 1 + 1, j, none⟩ v) B H R' :=
  ⟨h.box.far (by omega), h.res.far (by omega), h.hd.far (by omega), h.rd.set j v _ hR, h.below.setCell (by show w0.heap.size ≤ w0.heap.size + 1 + 1 + 1; omega) _⟩
theorem DH.putR {w0 w : World} {B H : List Value} {a b c : Value} (h : DH w0 w B H [a, b, c]) (x y z : Value) : DH w0 (((w.setCell ⟨w0.heap.size + 1 + 1 + 1, 0, none⟩ x).setCell ⟨w0.heap.size + 1 + 1 + 1, 1, none⟩ y).setCell ⟨w0.heap.size + 1 + 1 + 1, 2, none⟩ z) B H [x, y, z] :=
  ((h.setR 0 x _ rfl).setR 1 y _ rfl).setR 2 z _ rfl
theorem DH.start (w : World) (b0 b1 r0 r1 r2 : Value) : DH w ((((w.alloc (.cells #[b0, b1] 110)).alloc (.cells #[.int .u64 0, .int .u64 0, .int .u64 0, .int .i64 0] 41)).alloc (.cells #[.int .u64 0, .int .u64 0, .int .u64 0, .int .i64 0] 41)).alloc (.cells #[r0, r1, r2] 162)) [b0, b1] [.int .u64 0, .int .u64 0, .int .u64 0, .int .i64 0] [r0, r1, r2] :=
  ⟨(((Row.fresh w _ rfl _ _ _ rfl).alloc _).alloc _).alloc _, ((Row.fresh _ _ (asz _ _).symm _ _ _ rfl).alloc _).alloc _, (Row.fresh _ _ (asz2 _ _ _).symm _ _ _ rfl).alloc _, Row.fresh _ _ (asz3 _ _ _ _).symm _ _ _ rfl, belowA (belowA (belowA (below_alloc1 (Below.refl _ _) (Nat.le_refl _) _) _) _) _⟩
theorem results_dhd {fn : Func} {p u : Tmp} (h : fn.results = #[.cell p 41, .tmp u]) (tmps : Array Value) (w : World) (b : Nat) (x y z t : Value) (hp : tmps.getD p undef = .pointer (some ⟨b, 0, none⟩)) (hr : Row w b 41 [x, y, z, t]) :
    (results fn tmps).run Tryz.prog w = .ok (.tuple #[.agg #[x, y, z, t], tmps.getD u undef]) w := by
  have hp' : tmps[p]?.getD undef = .pointer (some ⟨b, 0, none⟩) := by simpa using hp
  have hl := run_loadVar_mid (P := Tryz.prog) w b 0 41 [x, y, z, t] _ (fun j v hj => by
    rw [Nat.zero_add, hr.cell j]
    exact hj) Tryz.underlying41 rfl (by kernel_rfl)
  simp [results, h, hp', asAddr, hl]
/-- what the document's reader takes -/
structure Dd4 (Q : List UInt8) (a0 e0 v1 a1 e1 v2 a2 e2 v3 a3 e3 v4 a4 e4 : Nat) : Prop where
  n1 : numS Q a0 e0 8 = (v1, a1, e1)
  n2 : numS Q a1 e1 8 = (v2, a2, e2)
  n3 : numS Q a2 e2 8 = (v3, a3, e3)
  n4 : numS Q a3 e3 1 = (v4, a4, e4)
set_option maxHeartbeats 20000000 in
set_option maxRecDepth 100000 in
theorem docHead_main (place : Nat) (hpl : place ≤ 18446744073709551615) (A : Option Addr) (Q : List UInt8) (n c : Nat) (w : World) (hq : RB w A c Q) (hn : n = Q.length) (hl : Q.length ≤ 65535) (q : List UInt8) (a0 e0 v1 a1 e1 v2 a2 e2 v3 a3 e3 v4 a4 e4 : Nat) (hraw : rawS Q 0 0 5 = (q, a0, e0)) (hd : Dd4 Q a0 e0 v1 a1 e1 v2 a2 e2 v3 a3 e3 v4 a4 e4)
    (l0 : a0 ≤ Q.length) (l1 : a1 ≤ Q.length) (l2 : a2 ≤ Q.length) (l3 : a3 ≤ Q.length) (m1 : v1 ≤ 18446744073709551615) (m2 : v2 ≤ 18446744073709551615) (m3 : v3 ≤ 18446744073709551615) (m4 : v4 ≤ 255) (ok : Bool) (hok : (decide (e4 = 0) && decide (1 ≤ v4 ∧ v4 ≤ 32) && (headL ⟨v1, v2, v3, v4⟩ == laid place Q)) = ok) :
    Calls Tryz.prog 60 #[.agg #[.int .u64 place, .slice A n c]] w fun r w' => r = .returned (.tuple #[.agg #[.int .u64 v1, .int .u64 v2, .int .u64 v3, .int .i64 v4], .bool ok]) ∧ Below w.heap.size w w' := by
  subst hn
  have N0 := Lib.hid hraw
  have N1 := Lib.hid hd.n1
  have N2 := Lib.hid hd.n2
  have N3 := Lib.hid hd.n3
  have N4 := Lib.hid hd.n4
  have h0 := Lib.hid (show (0 : Int) = ((0 : Nat) : Int) from rfl)
  have h1 := Lib.hid (show (1 : Int) = ((1 : Nat) : Int) from rfl)
  have h8 := Lib.hid (show (8 : Int) = ((8 : Nat) : Int) from rfl)
  have hq1 : Q.length ≤ 9223372036854775807 := by omega
  have hq2 : Q.length ≤ 140737488355328 := by omega
  have DS0 := DH.start w (.int .u64 place) (.slice A Q.length c) (.slice A Q.length c) (.int .i64 0) (.int .i64 0)
  have HQ := Lib.hid (hq.new DS0.below)
  have HQ0 := Lib.hid hq
  have HD0 := Lib.hid DS0
  have HP1 := (Pair.fresh w (.int .u64 place) (.slice A Q.length c) 110)
  have k1 := ((HP1.new (Bl.alloc _ (.cells #[.int .u64 0, .int .u64 0, .int .u64 0, .int .i64 0] 41))).new (Bl.alloc _ (.cells #[.int .u64 0, .int .u64 0, .int .u64 0, .int .i64 0] 41))).c1
  have s0 := DS0.rd.c 0 _ rfl
  have s1 := DS0.rd.c 1 _ rfl
  have s2 := DS0.rd.c 2 _ rfl
  have hw4 : IntKind.i64.wrap (v4 : Int) = v4 := by rw [IntKind.wrap_i64]; omega
  have HOK := Lib.hid hok
  clear hraw hd DS0 HP1 hok hq
  go_enter Tryz.func60, Tryz.ntmps60
  go_wp2_with (first
    | (go_at_call 110; go_loud (with_reducible refine (takeRawN A Q c 0 _ h0.out 5 _ HQ.out hq2 (Nat.zero_le _) (by decide) q a0 e0 N0.out q.length a0 e0 rfl rfl rfl).mono ?_); rintro x1 w1 ⟨A1, c1, rfl, hn1⟩; have D1 := HD0.out.new hn1.below; have Q1 := Lib.hid (HQ.out.new hn1.below); have s0 := D1.rd.c 0 _ rfl; have s1 := D1.rd.c 1 _ rfl; have s2 := D1.rd.c 2 _ rfl; have f0 := D1.rd.fz 0; have f1 := D1.rd.fz 1; have f2 := D1.rd.fz 2; have E1 := D1.putR (.slice A Q.length c) (.int .i64 a0) (.int .i64 e0); have t0 := E1.rd.c 0 _ rfl; have t1 := E1.rd.c 1 _ rfl; have t2 := E1.rd.c 2 _ rfl; have E1 := Lib.hid E1; have D1 := Lib.hid D1; have tk1 := trivial)
    | (go_at_call 109; have tk := tk1; clear tk tk1; go_loud (with_reducible refine (takeWideN A Q c a0 e0 8 _ _ _ rfl rfl h8.out _ (HQ0.out.new E1.out.below) hq1 l0 (by decide) v1 a1 e1 N1.out _ _ _ rfl rfl rfl).mono ?_); rintro x2 w2 ⟨rfl, hb2⟩; have D2 := E1.out.new hb2; have s0 := D2.rd.c 0 _ rfl; have s1 := D2.rd.c 1 _ rfl; have s2 := D2.rd.c 2 _ rfl; have f0 := D2.rd.fz 0; have f1 := D2.rd.fz 1; have f2 := D2.rd.fz 2; have g1 := D2.hd.c 0 _ rfl; have fh1 := D2.hd.fz 0; have E2 := (D2.setH 0 (.int .u64 v1) _ rfl).putR (.slice A Q.length c) (.int .i64 a1) (.int .i64 e1); have t0 := E2.rd.c 0 _ rfl; have t1 := E2.rd.c 1 _ rfl; have t2 := E2.rd.c 2 _ rfl; have E2 := Lib.hid E2; have D2 := Lib.hid D2; have tk2 := trivial)
    | (go_at_call 109; have tk := tk2; clear tk tk2; go_loud (with_reducible refine (takeWideN A Q c a1 e1 8 _ _ _ rfl rfl h8.out _ (HQ0.out.new E2.out.below) hq1 l1 (by decide) v2 a2 e2 N2.out _ _ _ rfl rfl rfl).mono ?_); rintro x3 w3 ⟨rfl, hb3⟩; have D3 := E2.out.new hb3; have s0 := D3.rd.c 0 _ rfl; have s1 := D3.rd.c 1 _ rfl; have s2 := D3.rd.c 2 _ rfl; have f0 := D3.rd.fz 0; have f1 := D3.rd.fz 1; have f2 := D3.rd.fz 2; have g2 := D3.hd.c 1 _ rfl; have fh2 := D3.hd.fz 1; have E3 := (D3.setH 1 (.int .u64 v2) _ rfl).putR (.slice A Q.length c) (.int .i64 a2) (.int .i64 e2); have t0 := E3.rd.c 0 _ rfl; have t1 := E3.rd.c 1 _ rfl; have t2 := E3.rd.c 2 _ rfl; have E3 := Lib.hid E3; have D3 := Lib.hid D3; have tk3 := trivial)
    | (go_at_call 109; have tk := tk3; clear tk tk3; go_loud (with_reducible refine (takeWideN A Q c a2 e2 8 _ _ _ rfl rfl h8.out _ (HQ0.out.new E3.out.below) hq1 l2 (by decide) v3 a3 e3 N3.out _ _ _ rfl rfl rfl).mono ?_); rintro x4 w4 ⟨rfl, hb4⟩; have D4 := E3.out.new hb4; have s0 := D4.rd.c 0 _ rfl; have s1 := D4.rd.c 1 _ rfl; have s2 := D4.rd.c 2 _ rfl; have f0 := D4.rd.fz 0; have f1 := D4.rd.fz 1; have f2 := D4.rd.fz 2; have g3 := D4.hd.c 2 _ rfl; have fh3 := D4.hd.fz 2; have E4 := (D4.setH 2 (.int .u64 v3) _ rfl).putR (.slice A Q.length c) (.int .i64 a3) (.int .i64 e3); have t0 := E4.rd.c 0 _ rfl; have t1 := E4.rd.c 1 _ rfl; have t2 := E4.rd.c 2 _ rfl; have E4 := Lib.hid E4; have D4 := Lib.hid D4; have tk4 := trivial)
    | (go_at_call 109; have tk := tk4; clear tk tk4; go_loud (with_reducible refine (takeWideN A Q c a3 e3 1 _ _ _ rfl rfl h1.out _ (HQ0.out.new E4.out.below) hq1 l3 (by decide) v4 a4 e4 N4.out _ _ _ rfl rfl rfl).mono ?_); rintro x5 w5 ⟨rfl, hb5⟩; have D5 := E4.out.new hb5; have s0 := D5.rd.c 0 _ rfl; have s1 := D5.rd.c 1 _ rfl; have s2 := D5.rd.c 2 _ rfl; have f0 := D5.rd.fz 0; have f1 := D5.rd.fz 1; have f2 := D5.rd.fz 2; have E5 := D5.putR (.slice A Q.length c) (.int .i64 a4) (.int .i64 e4); have g4 := E5.hd.c 3 _ rfl; have fh4 := E5.hd.fz 3; have E5 := Lib.hid (E5.setH 3 (.int .i64 v4) _ rfl); have D5 := Lib.hid D5))
  have X0 := E5.out
  clear D1 D2 D3 D4 D5 E1 E2 E3 E4 E5 s0 s1 s2 f0 f1 f2 t0 t1 t2 g1 g2 g3 g4 fh1 fh2 fh3 fh4 hn1 hb2 hb3 hb4 hb5 k1 HD0
  have QX : Hid (DH w ((((w5.setCell ⟨w.heap.size + 1 + 1 + 1, 0, none⟩ (.slice A Q.length c)).setCell ⟨w.heap.size + 1 + 1 + 1, 1, none⟩ (.int .i64 a4)).setCell ⟨w.heap.size + 1 + 1 + 1, 2, none⟩ (.int .i64 e4)).setCell ⟨w.heap.size + 1 + 1, 3, none⟩ (.int .i64 v4)) [.int .u64 place, .slice A Q.length c] [.int .u64 v1, .int .u64 v2, .int .u64 v3, .int .i64 v4] [.slice A Q.length c, .int .i64 a4, .int .i64 e4]) := Lib.hid X0
  clear X0
  generalize ((((w5.setCell ⟨w.heap.size + 1 + 1 + 1, 0, none⟩ (.slice A Q.length c)).setCell ⟨w.heap.size + 1 + 1 + 1, 1, none⟩ (.int .i64 a4)).setCell ⟨w.heap.size + 1 + 1 + 1, 2, none⟩ (.int .i64 e4)).setCell ⟨w.heap.size + 1 + 1, 3, none⟩ (.int .i64 v4)) = wz at QX ⊢
  replace QX := Lib.hid (QX.out.new (Bl.drew wz))
  by_cases he : e4 = 0
  · subst he
    by_cases hv : 1 ≤ v4 ∧ v4 ≤ 32
    · have HW := Lib.hid (show decide (1 ≤ (v4 : Int) ∧ (v4 : Int) ≤ 32) = true by rw [decide_eq_true_iff]; omega)
      have HB := Lib.hid (show ok = (headL ⟨v1, v2, v3, v4⟩ == laid place Q) by rw [← HOK.out]; simp [hv])
      have HSB : Hid ((headL ⟨v1, v2, v3, v4⟩ == laid place Q) = ok) := Lib.hid HB.out.symm
      have HHB := Lib.hid (fun w => headBytes_calls ⟨v1, v2, v3, v4⟩ m1 m2 m3 m4 v4 rfl w)
      simp only at HHB
      have HL48 := Lib.hid (headL_length ⟨v1, v2, v3, v4⟩)
      have HLL := Lib.hid (FrameMath.laid_length place Q)
      generalize headL ⟨v1, v2, v3, v4⟩ = hdl at *
      obtain ⟨ldl, hldl⟩ : ∃ l, laid place Q = l := ⟨_, rfl⟩
      have HLDQ := Lib.hid hldl
      rw [hldl] at HSB HLL
      clear hldl
      clear hv
      have y0 := QX.out.rd.c 2 _ rfl
      have y1 := QX.out.hd.c 0 _ rfl
      have y2 := QX.out.hd.c 1 _ rfl
      have y3 := QX.out.hd.c 2 _ rfl
      have y4 := QX.out.hd.c 3 _ rfl
      have y5 := QX.out.box.c 0 _ rfl
      have y6 := QX.out.box.c 1 _ rfl
      go_region_held3 (fun w' => w'.cell? ⟨w.heap.size + 1 + 1 + 1, 2, none⟩ = some (.int .i64 (0 : Nat)) ∧ w'.cell? ⟨w.heap.size + 1 + 1, 0, none⟩ = some (.int .u64 v1) ∧ w'.cell? ⟨w.heap.size + 1 + 1, 1, none⟩ = some (.int .u64 v2) ∧ w'.cell? ⟨w.heap.size + 1 + 1, 2, none⟩ = some (.int .u64 v3) ∧ w'.cell? ⟨w.heap.size + 1 + 1, 3, none⟩ = some (.int .i64 v4) ∧ w'.cell? ⟨w.heap.size, 0, none⟩ = some (.int .u64 place) ∧ w'.cell? ⟨w.heap.size, 1, none⟩ = some (.slice A Q.length c)) (first | exact ⟨y0, y1, y2, y3, y4, y5, y6⟩ | go_keep) (first
        | (go_at_call 50; go_loud (with_reducible refine (docWide_calls v4 true HW.out _).mono ?_); rintro e8 w8 ⟨rfl, rfl⟩)
        | (go_at_call 51; go_loud (with_reducible refine (HHB.out _).mono ?_); rintro e9 w9 ⟨A9, c9, rfl, hn9⟩; (try replace QW := Lib.hid (QW.out.step hn9.below)); have QM := Lib.hid (bgRB hn9.own.rb); replace QX := Lib.hid (QX.out.new hn9.below); have y0 := QX.out.rd.c 2 _ rfl; have y1 := QX.out.hd.c 0 _ rfl; have y2 := QX.out.hd.c 1 _ rfl; have y3 := QX.out.hd.c 2 _ rfl; have y4 := QX.out.hd.c 3 _ rfl; have y5 := QX.out.box.c 0 _ rfl; have y6 := QX.out.box.c 1 _ rfl)
        | (go_at_call 55; go_loud (with_reducible refine (reflaid_calls place _ rfl hpl A Q _ c _ (HQ0.out.new QX.out.below) rfl hl).mono ?_); rintro e10 w10 ⟨A10, c10, rfl, hn10⟩; (try replace QM := Lib.hid (QM.out.step hn10.below)); rw [HLDQ.out] at hn10; have QW := Lib.hid (bgRB hn10.own.rb); replace QX := Lib.hid (QX.out.new hn10.below); have y0 := QX.out.rd.c 2 _ rfl; have y1 := QX.out.hd.c 0 _ rfl; have y2 := QX.out.hd.c 1 _ rfl; have y3 := QX.out.hd.c 2 _ rfl; have y4 := QX.out.hd.c 3 _ rfl; have y5 := QX.out.box.c 0 _ rfl; have y6 := QX.out.box.c 1 _ rfl)
        | (go_at_call 23; go_loud (with_reducible refine (sameR A9 A10 hdl ldl _ _ c9 c10 _ QM.out.h QW.out.h HL48.out.symm HLL.out.symm ok HSB.out).mono ?_); rintro e11 w11 ⟨rfl, hd11⟩; replace QX := Lib.hid (QX.out.new (hd11.below _)); have y0 := QX.out.rd.c 2 _ rfl; have y1 := QX.out.hd.c 0 _ rfl; have y2 := QX.out.hd.c 1 _ rfl; have y3 := QX.out.hd.c 2 _ rfl; have y4 := QX.out.hd.c 3 _ rfl; have y5 := QX.out.box.c 0 _ rfl; have y6 := QX.out.box.c 1 _ rfl))
      all_goals
      have r0 := QX.out.res.c 0 _ rfl
      have r1 := QX.out.res.c 1 _ rfl
      have r2 := QX.out.res.c 2 _ rfl
      have r3 := QX.out.res.c 3 _ rfl
      have f0 := QX.out.res.fz 0
      have f1 := QX.out.res.fz 1
      have f2 := QX.out.res.fz 2
      have f3 := QX.out.res.fz 3
      go_wp2
      exact bodyPost_ret (results_dhd rfl _ _ (w.heap.size + 1) _ _ _ _ rfl (QX.out.res.put4 _ _ _ _)) rfl ⟨by rw [HB.out]; rfl, below_put4 QX.out.below (Nat.le_succ _) _ _ _ _⟩
    · have HW := Lib.hid (show decide (1 ≤ (v4 : Int) ∧ (v4 : Int) ≤ 32) = false by rw [decide_eq_false_iff_not]; omega)
      have HB := Lib.hid (show ok = false by rw [← HOK.out]; simp [hv])
      clear hv
      refine wp_region_held_drew (S := fun w' => DH w w' [.int .u64 place, .slice A Q.length c] [.int .u64 v1, .int .u64 v2, .int .u64 v3, .int .i64 v4] [.slice A Q.length c, .int .i64 a4, .int .i64 (0 : Nat)]) (by kernel_rfl) QX.out (fun hHeld => ?_)
      generalize wz.drew = wd at QX hHeld ⊢
      refine wpAnyH_take (i := 0) (v := .pointer (some ⟨w.heap.size + 1 + 1 + 1, 2, none⟩)) rfl (by kernel_rfl) (by kernel_rfl) (by kernel_rfl) (fun _ _ _ h => h) (Or.inl ⟨by rfl, fun w hS => by go_simp⟩) (by assumption) ?_
      try simp only [Act.put, List.getElem_toArray, List.getElem_cons_succ, List.getElem_cons_zero, List.setIfInBounds_toArray, List.set_cons_zero, List.set_cons_succ]
      refine wpAnyH_take (i := 1) (v := .int .i64 (0 : Nat)) rfl (by kernel_rfl) (by kernel_rfl) (by kernel_rfl) (fun _ _ _ h => h) (Or.inl ⟨by rfl, fun w hS => by have y0 := hS.rd.c 2 _ rfl; go_simp⟩) (by assumption) ?_
      try simp only [Act.put, List.getElem_toArray, List.getElem_cons_succ, List.getElem_cons_zero, List.setIfInBounds_toArray, List.set_cons_zero, List.set_cons_succ]
      refine wpAnyH_take (i := 2) (v := .bool true) rfl (by kernel_rfl) (by kernel_rfl) (by kernel_rfl) (fun _ _ _ h => h) (Or.inl ⟨by rfl, fun w hS => by go_simp⟩) (by assumption) ?_
      try simp only [Act.put, List.getElem_toArray, List.getElem_cons_succ, List.getElem_cons_zero, List.setIfInBounds_toArray, List.set_cons_zero, List.set_cons_succ]
      refine wpAnyH_take (i := 3) (v := .bool true) rfl (by kernel_rfl) (by kernel_rfl) (by kernel_rfl) (fun _ _ _ h => h) (Or.inl ⟨by rfl, fun w hS => by go_simp⟩) (by assumption) ?_
      try simp only [Act.put, List.getElem_toArray, List.getElem_cons_succ, List.getElem_cons_zero, List.setIfInBounds_toArray, List.set_cons_zero, List.set_cons_succ]
      refine wpAnyH_take (i := 4) (v := .pointer (some ⟨w.heap.size + 1 + 1, 3, none⟩)) rfl (by kernel_rfl) (by kernel_rfl) (by kernel_rfl) (fun _ _ _ h => h) (Or.inl ⟨by rfl, fun w hS => by go_simp⟩) (by assumption) ?_
      try simp only [Act.put, List.getElem_toArray, List.getElem_cons_succ, List.getElem_cons_zero, List.setIfInBounds_toArray, List.set_cons_zero, List.set_cons_succ]
      refine wpAnyH_take (i := 5) (v := .int .i64 v4) rfl (by kernel_rfl) (by kernel_rfl) (by kernel_rfl) (fun _ _ _ h => h) (Or.inl ⟨by rfl, fun w hS => by have y0 := hS.hd.c 3 _ rfl; go_simp⟩) (by assumption) ?_
      try simp only [Act.put, List.getElem_toArray, List.getElem_cons_succ, List.getElem_cons_zero, List.setIfInBounds_toArray, List.set_cons_zero, List.set_cons_succ]
      refine wpAnyH_ready (rs := [6]) (by kernel_rfl) (by simp) ?_
      refine AllReadyH.cons rfl (fun K hK => ?_) AllReadyH.nil
      go_simp
      (go_at_call 50; (with_reducible refine (docWide_calls v4 false HW.out _).mono ?_); rintro e8 w8 ⟨rfl, rfl⟩)
      try dsimp only
      refine hK.out _ _ hHeld (fun hHeld => ?_)
      clear hK K
      try simp only [Act.put, List.getElem_toArray, List.getElem_cons_succ, List.getElem_cons_zero, List.setIfInBounds_toArray, List.set_cons_zero, List.set_cons_succ]
      refine wpAnyH_take (i := 7) (v := .bool false) rfl (by kernel_rfl) (by kernel_rfl) (by kernel_rfl) (fun _ _ _ h => h) (Or.inl ⟨by rfl, fun w hS => by go_simp⟩) (by assumption) ?_
      try simp only [Act.put, List.getElem_toArray, List.getElem_cons_succ, List.getElem_cons_zero, List.setIfInBounds_toArray, List.set_cons_zero, List.set_cons_succ]
      refine wpAnyH_take (i := 8) (v := .bool false) rfl (by kernel_rfl) (by kernel_rfl) (by kernel_rfl) (fun _ _ _ h => h) (Or.inl ⟨by rfl, fun w hS => by go_simp⟩) (by assumption) ?_
      try simp only [Act.put, List.getElem_toArray, List.getElem_cons_succ, List.getElem_cons_zero, List.setIfInBounds_toArray, List.set_cons_zero, List.set_cons_succ]
      refine wpAnyH_take (i := 9) (v := undef) rfl (by kernel_rfl) (by kernel_rfl) (by kernel_rfl) (fun _ _ _ h => h) (Or.inr ⟨by rfl, rfl⟩) (by assumption) ?_
      try simp only [Act.put, List.getElem_toArray, List.getElem_cons_succ, List.getElem_cons_zero, List.setIfInBounds_toArray, List.set_cons_zero, List.set_cons_succ]
      refine wpAnyH_take (i := 10) (v := undef) rfl (by kernel_rfl) (by kernel_rfl) (by kernel_rfl) (fun _ _ _ h => h) (Or.inr ⟨by rfl, rfl⟩) (by assumption) ?_
      try simp only [Act.put, List.getElem_toArray, List.getElem_cons_succ, List.getElem_cons_zero, List.setIfInBounds_toArray, List.set_cons_zero, List.set_cons_succ]
      refine wpAnyH_take (i := 11) (v := undef) rfl (by kernel_rfl) (by kernel_rfl) (by kernel_rfl) (fun _ _ _ h => h) (Or.inr ⟨by rfl, rfl⟩) (by assumption) ?_
      try simp only [Act.put, List.getElem_toArray, List.getElem_cons_succ, List.getElem_cons_zero, List.setIfInBounds_toArray, List.set_cons_zero, List.set_cons_succ]
      refine wpAnyH_take (i := 12) (v := undef) rfl (by kernel_rfl) (by kernel_rfl) (by kernel_rfl) (fun _ _ _ h => h) (Or.inr ⟨by rfl, rfl⟩) (by assumption) ?_
      try simp only [Act.put, List.getElem_toArray, List.getElem_cons_succ, List.getElem_cons_zero, List.setIfInBounds_toArray, List.set_cons_zero, List.set_cons_succ]
      refine wpAnyH_take (i := 13) (v := undef) rfl (by kernel_rfl) (by kernel_rfl) (by kernel_rfl) (fun _ _ _ h => h) (Or.inr ⟨by rfl, rfl⟩) (by assumption) ?_
      try simp only [Act.put, List.getElem_toArray, List.getElem_cons_succ, List.getElem_cons_zero, List.setIfInBounds_toArray, List.set_cons_zero, List.set_cons_succ]
      refine wpAnyH_take (i := 14) (v := undef) rfl (by kernel_rfl) (by kernel_rfl) (by kernel_rfl) (fun _ _ _ h => h) (Or.inr ⟨by rfl, rfl⟩) (by assumption) ?_
      try simp only [Act.put, List.getElem_toArray, List.getElem_cons_succ, List.getElem_cons_zero, List.setIfInBounds_toArray, List.set_cons_zero, List.set_cons_succ]
      refine wpAnyH_take (i := 15) (v := undef) rfl (by kernel_rfl) (by kernel_rfl) (by kernel_rfl) (fun _ _ _ h => h) (Or.inr ⟨by rfl, rfl⟩) (by assumption) ?_
      try simp only [Act.put, List.getElem_toArray, List.getElem_cons_succ, List.getElem_cons_zero, List.setIfInBounds_toArray, List.set_cons_zero, List.set_cons_succ]
      refine wpAnyH_take (i := 16) (v := undef) rfl (by kernel_rfl) (by kernel_rfl) (by kernel_rfl) (fun _ _ _ h => h) (Or.inr ⟨by rfl, rfl⟩) (by assumption) ?_
      try simp only [Act.put, List.getElem_toArray, List.getElem_cons_succ, List.getElem_cons_zero, List.setIfInBounds_toArray, List.set_cons_zero, List.set_cons_succ]
      refine wpAnyH_take (i := 17) (v := .bool false) rfl (by kernel_rfl) (by kernel_rfl) (by kernel_rfl) (fun _ _ _ h => h) (Or.inl ⟨by rfl, fun w hS => by go_simp⟩) (by assumption) ?_
      try simp only [Act.put, List.getElem_toArray, List.getElem_cons_succ, List.getElem_cons_zero, List.setIfInBounds_toArray, List.set_cons_zero, List.set_cons_succ]
      refine wpAnyH_take (i := 18) (v := .bool false) rfl (by kernel_rfl) (by kernel_rfl) (by kernel_rfl) (fun _ _ _ h => h) (Or.inl ⟨by rfl, fun w hS => by go_simp⟩) (by assumption) ?_
      try simp only [Act.put, List.getElem_toArray, List.getElem_cons_succ, List.getElem_cons_zero, List.setIfInBounds_toArray, List.set_cons_zero, List.set_cons_succ]
      refine wpAnyH_done (by kernel_rfl) ?_ _
      have y1 := QX.out.hd.c 0 _ rfl
      have y2 := QX.out.hd.c 1 _ rfl
      have y3 := QX.out.hd.c 2 _ rfl
      have y4 := QX.out.hd.c 3 _ rfl
      have r0 := QX.out.res.c 0 _ rfl
      have r1 := QX.out.res.c 1 _ rfl
      have r2 := QX.out.res.c 2 _ rfl
      have r3 := QX.out.res.c 3 _ rfl
      have f0 := QX.out.res.fz 0
      have f1 := QX.out.res.fz 1
      have f2 := QX.out.res.fz 2
      have f3 := QX.out.res.fz 3
      go_wp2
      exact bodyPost_ret (results_dhd rfl _ _ (w.heap.size + 1) _ _ _ _ rfl (QX.out.res.put4 _ _ _ _)) rfl ⟨by rw [HB.out]; rfl, below_put4 QX.out.below (Nat.le_succ _) _ _ _ _⟩
  · have HB := Lib.hid (show ok = false by rw [← HOK.out]; simp [he])
    have heb : ((e4 : Int) == 0) = false := by rw [beq_eq_false_iff_ne]; omega
    all_goals
      refine wp_region_held_drew (S := fun w' => DH w w' [.int .u64 place, .slice A Q.length c] [.int .u64 v1, .int .u64 v2, .int .u64 v3, .int .i64 v4] [.slice A Q.length c, .int .i64 a4, .int .i64 e4]) (by kernel_rfl) QX.out (fun hHeld => ?_)
      generalize wz.drew = wd at QX hHeld ⊢
      refine wpAnyH_take (i := 0) (v := .pointer (some ⟨w.heap.size + 1 + 1 + 1, 2, none⟩)) rfl (by kernel_rfl) (by kernel_rfl) (by kernel_rfl) (fun _ _ _ h => h) (Or.inl ⟨by rfl, fun w hS => by go_simp⟩) (by assumption) ?_
      try simp only [Act.put, List.getElem_toArray, List.getElem_cons_succ, List.getElem_cons_zero, List.setIfInBounds_toArray, List.set_cons_zero, List.set_cons_succ]
      refine wpAnyH_take (i := 1) (v := .int .i64 e4) rfl (by kernel_rfl) (by kernel_rfl) (by kernel_rfl) (fun _ _ _ h => h) (Or.inl ⟨by rfl, fun w hS => by have y0 := hS.rd.c 2 _ rfl; go_simp⟩) (by assumption) ?_
      try simp only [Act.put, List.getElem_toArray, List.getElem_cons_succ, List.getElem_cons_zero, List.setIfInBounds_toArray, List.set_cons_zero, List.set_cons_succ]
      refine wpAnyH_take (i := 2) (v := .bool false) rfl (by kernel_rfl) (by kernel_rfl) (by kernel_rfl) (fun _ _ _ h => h) (Or.inl ⟨by rfl, fun w hS => by go_simp⟩) (by assumption) ?_
      try simp only [Act.put, List.getElem_toArray, List.getElem_cons_succ, List.getElem_cons_zero, List.setIfInBounds_toArray, List.set_cons_zero, List.set_cons_succ]
      refine wpAnyH_take (i := 3) (v := .bool false) rfl (by kernel_rfl) (by kernel_rfl) (by kernel_rfl) (fun _ _ _ h => h) (Or.inl ⟨by rfl, fun w hS => by go_simp⟩) (by assumption) ?_
      try simp only [Act.put, List.getElem_toArray, List.getElem_cons_succ, List.getElem_cons_zero, List.setIfInBounds_toArray, List.set_cons_zero, List.set_cons_succ]
      refine wpAnyH_take (i := 4) (v := undef) rfl (by kernel_rfl) (by kernel_rfl) (by kernel_rfl) (fun _ _ _ h => h) (Or.inr ⟨by rfl, rfl⟩) (by assumption) ?_
      try simp only [Act.put, List.getElem_toArray, List.getElem_cons_succ, List.getElem_cons_zero, List.setIfInBounds_toArray, List.set_cons_zero, List.set_cons_succ]
      refine wpAnyH_take (i := 5) (v := undef) rfl (by kernel_rfl) (by kernel_rfl) (by kernel_rfl) (fun _ _ _ h => h) (Or.inr ⟨by rfl, rfl⟩) (by assumption) ?_
      try simp only [Act.put, List.getElem_toArray, List.getElem_cons_succ, List.getElem_cons_zero, List.setIfInBounds_toArray, List.set_cons_zero, List.set_cons_succ]
      refine wpAnyH_take (i := 6) (v := undef) rfl (by kernel_rfl) (by kernel_rfl) (by kernel_rfl) (fun _ _ _ h => h) (Or.inr ⟨by rfl, rfl⟩) (by assumption) ?_
      try simp only [Act.put, List.getElem_toArray, List.getElem_cons_succ, List.getElem_cons_zero, List.setIfInBounds_toArray, List.set_cons_zero, List.set_cons_succ]
      refine wpAnyH_take (i := 7) (v := .bool false) rfl (by kernel_rfl) (by kernel_rfl) (by kernel_rfl) (fun _ _ _ h => h) (Or.inl ⟨by rfl, fun w hS => by go_simp⟩) (by assumption) ?_
      try simp only [Act.put, List.getElem_toArray, List.getElem_cons_succ, List.getElem_cons_zero, List.setIfInBounds_toArray, List.set_cons_zero, List.set_cons_succ]
      refine wpAnyH_take (i := 8) (v := .bool false) rfl (by kernel_rfl) (by kernel_rfl) (by kernel_rfl) (fun _ _ _ h => h) (Or.inl ⟨by rfl, fun w hS => by go_simp⟩) (by assumption) ?_
      try simp only [Act.put, List.getElem_toArray, List.getElem_cons_succ, List.getElem_cons_zero, List.setIfInBounds_toArray, List.set_cons_zero, List.set_cons_succ]
      refine wpAnyH_take (i := 9) (v := undef) rfl (by kernel_rfl) (by kernel_rfl) (by kernel_rfl) (fun _ _ _ h => h) (Or.inr ⟨by rfl, rfl⟩) (by assumption) ?_
      try simp only [Act.put, List.getElem_toArray, List.getElem_cons_succ, List.getElem_cons_zero, List.setIfInBounds_toArray, List.set_cons_zero, List.set_cons_succ]
      refine wpAnyH_take (i := 10) (v := undef) rfl (by kernel_rfl) (by kernel_rfl) (by kernel_rfl) (fun _ _ _ h => h) (Or.inr ⟨by rfl, rfl⟩) (by assumption) ?_
      try simp only [Act.put, List.getElem_toArray, List.getElem_cons_succ, List.getElem_cons_zero, List.setIfInBounds_toArray, List.set_cons_zero, List.set_cons_succ]
      refine wpAnyH_take (i := 11) (v := undef) rfl (by kernel_rfl) (by kernel_rfl) (by kernel_rfl) (fun _ _ _ h => h) (Or.inr ⟨by rfl, rfl⟩) (by assumption) ?_
      try simp only [Act.put, List.getElem_toArray, List.getElem_cons_succ, List.getElem_cons_zero, List.setIfInBounds_toArray, List.set_cons_zero, List.set_cons_succ]
      refine wpAnyH_take (i := 12) (v := undef) rfl (by kernel_rfl) (by kernel_rfl) (by kernel_rfl) (fun _ _ _ h => h) (Or.inr ⟨by rfl, rfl⟩) (by assumption) ?_
      try simp only [Act.put, List.getElem_toArray, List.getElem_cons_succ, List.getElem_cons_zero, List.setIfInBounds_toArray, List.set_cons_zero, List.set_cons_succ]
      refine wpAnyH_take (i := 13) (v := undef) rfl (by kernel_rfl) (by kernel_rfl) (by kernel_rfl) (fun _ _ _ h => h) (Or.inr ⟨by rfl, rfl⟩) (by assumption) ?_
      try simp only [Act.put, List.getElem_toArray, List.getElem_cons_succ, List.getElem_cons_zero, List.setIfInBounds_toArray, List.set_cons_zero, List.set_cons_succ]
      refine wpAnyH_take (i := 14) (v := undef) rfl (by kernel_rfl) (by kernel_rfl) (by kernel_rfl) (fun _ _ _ h => h) (Or.inr ⟨by rfl, rfl⟩) (by assumption) ?_
      try simp only [Act.put, List.getElem_toArray, List.getElem_cons_succ, List.getElem_cons_zero, List.setIfInBounds_toArray, List.set_cons_zero, List.set_cons_succ]
      refine wpAnyH_take (i := 15) (v := undef) rfl (by kernel_rfl) (by kernel_rfl) (by kernel_rfl) (fun _ _ _ h => h) (Or.inr ⟨by rfl, rfl⟩) (by assumption) ?_
      try simp only [Act.put, List.getElem_toArray, List.getElem_cons_succ, List.getElem_cons_zero, List.setIfInBounds_toArray, List.set_cons_zero, List.set_cons_succ]
      refine wpAnyH_take (i := 16) (v := undef) rfl (by kernel_rfl) (by kernel_rfl) (by kernel_rfl) (fun _ _ _ h => h) (Or.inr ⟨by rfl, rfl⟩) (by assumption) ?_
      try simp only [Act.put, List.getElem_toArray, List.getElem_cons_succ, List.getElem_cons_zero, List.setIfInBounds_toArray, List.set_cons_zero, List.set_cons_succ]
      refine wpAnyH_take (i := 17) (v := .bool false) rfl (by kernel_rfl) (by kernel_rfl) (by kernel_rfl) (fun _ _ _ h => h) (Or.inl ⟨by rfl, fun w hS => by go_simp⟩) (by assumption) ?_
      try simp only [Act.put, List.getElem_toArray, List.getElem_cons_succ, List.getElem_cons_zero, List.setIfInBounds_toArray, List.set_cons_zero, List.set_cons_succ]
      refine wpAnyH_take (i := 18) (v := .bool false) rfl (by kernel_rfl) (by kernel_rfl) (by kernel_rfl) (fun _ _ _ h => h) (Or.inl ⟨by rfl, fun w hS => by go_simp⟩) (by assumption) ?_
      try simp only [Act.put, List.getElem_toArray, List.getElem_cons_succ, List.getElem_cons_zero, List.setIfInBounds_toArray, List.set_cons_zero, List.set_cons_succ]
      refine wpAnyH_done (by kernel_rfl) ?_ _
      have y1 := QX.out.hd.c 0 _ rfl
      have y2 := QX.out.hd.c 1 _ rfl
      have y3 := QX.out.hd.c 2 _ rfl
      have y4 := QX.out.hd.c 3 _ rfl
      have r0 := QX.out.res.c 0 _ rfl
      have r1 := QX.out.res.c 1 _ rfl
      have r2 := QX.out.res.c 2 _ rfl
      have r3 := QX.out.res.c 3 _ rfl
      have f0 := QX.out.res.fz 0
      have f1 := QX.out.res.fz 1
      have f2 := QX.out.res.fz 2
      have f3 := QX.out.res.fz 3
      go_wp2
      exact bodyPost_ret (results_dhd rfl _ _ (w.heap.size + 1) _ _ _ _ rfl (QX.out.res.put4 _ _ _ _)) rfl ⟨by rw [HB.out]; rfl, below_put4 QX.out.below (Nat.le_succ _) _ _ _ _⟩
theorem laid_inj (a b : Nat) (p q : List UInt8) (ha : a ≤ 18446744073709551615) (hb : b ≤ 18446744073709551615) (hp : 1 ≤ p.length) (hp2 : p.length ≤ 65535) (hq : 1 ≤ q.length) (hq2 : q.length ≤ 65535) (h : laid a p = laid b q) : a = b ∧ p = q := by
  have e1 := next_laid a p [] ha hp hp2
  have e2 := next_laid b q [] hb hq hq2
  rw [h, e2] at e1
  injection e1 with _ h1 h2 _
  exact ⟨h1.symm, h2.symm⟩
theorem docHeadR_calls (place : Nat) (hpl : place ≤ 18446744073709551615) (A : Option Addr) (Q : List UInt8) (n c : Nat) (w : World) (hq : RB w A c Q) (hn : n = Q.length) (hl : Q.length ≤ 65535) :
    Calls Tryz.prog 60 #[.agg #[.int .u64 place, .slice A n c]] w fun r w' => ∃ h : HdV, r = .returned (.tuple #[.agg #[.int .u64 h.n, .int .u64 h.ep, .int .u64 h.f, .int .i64 h.w], .bool (decide (headOk Q place))]) ∧ (headOk Q place → h = headV Q) ∧ Below w.heap.size w w' := by
  by_cases h5 : Q.length < 5
  · have hraw : rawS Q 0 0 5 = ([], 0, 3) := by
      unfold WireMath.rawS
      rw [if_neg (by simp), if_neg (by decide), if_pos (by omega)]
    have hb : ∀ k, numS Q 0 3 k = (0, 0, 3) := fun k => num_bad Q 0 3 k (by decide)
    have hf : ¬ headOk Q place := fun h => by have := h.2.1; omega
    have hd : decide (headOk Q place) = false := by rw [decide_eq_false_iff_not]; exact hf
    rw [hd]
    exact (docHead_main place hpl A Q n c w hq hn hl [] 0 3 0 0 3 0 0 3 0 0 3 0 0 3 hraw ⟨hb 8, hb 8, hb 8, hb 1⟩ (by omega) (by omega) (by omega) (by omega) (by decide) (by decide) (by decide) (by decide) false (by simp)).mono fun r w' ⟨h1, h2⟩ => ⟨⟨0, 0, 0, 0⟩, h1, fun h => absurd h hf, h2⟩
  · have hraw : rawS Q 0 0 5 = (Q.take 5, 5, 0) := by
      unfold WireMath.rawS
      rw [if_neg (by simp), if_neg (by decide), if_neg (by omega)]
      rfl
    obtain ⟨v1, a1, e1, q1⟩ : ∃ v1 a1 e1, WireMath.numS Q 5 0 8 = (v1, a1, e1) := ⟨_, _, _, rfl⟩
    obtain ⟨v2, a2, e2, q2⟩ : ∃ v a e, WireMath.numS Q a1 e1 8 = (v, a, e) := ⟨_, _, _, rfl⟩
    obtain ⟨v3, a3, e3, q3⟩ : ∃ v a e, WireMath.numS Q a2 e2 8 = (v, a, e) := ⟨_, _, _, rfl⟩
    obtain ⟨v4, a4, e4, q4⟩ : ∃ v a e, WireMath.numS Q a3 e3 1 = (v, a, e) := ⟨_, _, _, rfl⟩
    have hd : Hd4 Q v1 a1 e1 v2 a2 e2 v3 a3 e3 v4 a4 e4 := ⟨q1, q2, q3, q4⟩
    obtain ⟨lt1, lt2, lt3, lt4⟩ := hd4_lt hd
    have k1 := num_next Q 5 0 8 (by omega)
    rw [q1] at k1
    have k2 := num_next Q a1 e1 8 k1.1
    rw [q2] at k2
    have k3 := num_next Q a2 e2 8 k2.1
    rw [q3] at k3
    have hok : (decide (e4 = 0) && decide (1 ≤ v4 ∧ v4 ≤ 32) && (headL ⟨v1, v2, v3, v4⟩ == laid place Q)) = decide (headOk Q place) := by
      rw [Bool.eq_iff_iff, Bool.and_eq_true, Bool.and_eq_true, decide_eq_true_iff, decide_eq_true_iff, decide_eq_true_iff, beq_iff_eq]
      constructor
      · rintro ⟨⟨h1, h2⟩, h3⟩
        have hlen : Q.length = 30 := by
          have := congrArg List.length h3
          rw [headL_length, FrameMath.laid_length] at this
          omega
        have hk : HdOk ⟨v1, v2, v3, v4⟩ := ⟨lt1, lt2, lt3, h2.1, h2.2⟩
        have hpl2 := headPay_length ⟨v1, v2, v3, v4⟩
        obtain ⟨g1, g2⟩ := laid_inj v1 place (headPay ⟨v1, v2, v3, v4⟩) Q lt1 hpl (by omega) (by omega) (by omega) (by omega) h3
        rw [← g2, ← g1]
        exact headOk_pay _ hk
      · intro h
        have hv := hd4_val h.2.1 hd
        have h1 := h.2.2.1
        have h2 := h.2.2.2.1
        have h3 := h.2.2.2.2
        rw [hv] at h1 h2 h3
        have hdn := (hd4_ok (by omega) hd).2 h.2.1
        have he : e4 = 0 := by
          unfold doneE at hdn
          split at hdn
          · exact hdn
          · exact absurd hdn (by decide)
        refine ⟨⟨he, h1, h2⟩, ?_⟩
        have hb := headPay_back Q place h
        rw [hv] at hb
        simp only at h3
        unfold headL
        rw [← hb]
        show laid v1 Q = laid place Q
        rw [h3]
    exact (docHead_main place hpl A Q n c w hq hn hl _ 5 0 v1 a1 e1 v2 a2 e2 v3 a3 e3 v4 a4 e4 hraw ⟨q1, q2, q3, q4⟩ (by omega) k1.1 k2.1 k3.1 lt1 lt2 lt3 lt4 _ hok).mono fun r w' ⟨h1, h2⟩ => ⟨⟨v1, v2, v3, v4⟩, h1, fun h => (hd4_val h.2.1 hd).symm, h2⟩
end Go.Proofs.YtpmnnnbkbcpgjaaGreatDoor
