import Derived.Test.YtpmnnnbkbcpgjaaGreatDoorQBh
import Derived.Test.YtpmnnnbkbcpgjaaGreatDoorQBf
/- The walk of segment.Read. -/
namespace Go.Proofs.YtpmnnnbkbcpgjaaGreatDoor
open Go.RowKit
open FrameMath (laid)

theorem headN (place : Nat) (A : Option Addr) (Q : List UInt8) (n c : Nat) (w : World) (hq : RB w A c Q) (hn : n = Q.length) (hl : Q.length ≤ 140737488355328) :
    Calls Tryz.prog 57 #[.agg #[.int .u64 place, .slice A n c]] w fun r w' => ∃ h : HdV, r = .returned (.tuple #[.agg #[.int .u64 h.n, .int .u64 h.ep, .int .u64 h.f, .int .i64 h.w], .bool (decide (headOk Q place))]) ∧ (headOk Q place → h = headV Q) ∧ Below w.heap.size w w' := by
  by_cases hm : Q.take 5 = magicL
  · obtain ⟨v1, a1, e1, q1⟩ : ∃ v1 a1 e1, WireMath.numS Q 5 0 8 = (v1, a1, e1) := ⟨_, _, _, rfl⟩
    obtain ⟨v2, a2, e2, q2⟩ : ∃ v a e, WireMath.numS Q a1 e1 8 = (v, a, e) := ⟨_, _, _, rfl⟩
    obtain ⟨v3, a3, e3, q3⟩ : ∃ v a e, WireMath.numS Q a2 e2 8 = (v, a, e) := ⟨_, _, _, rfl⟩
    obtain ⟨v4, a4, e4, q4⟩ : ∃ v a e, WireMath.numS Q a3 e3 1 = (v, a, e) := ⟨_, _, _, rfl⟩
    have hd : Hd4 Q v1 a1 e1 v2 a2 e2 v3 a3 e3 v4 a4 e4 := ⟨q1, q2, q3, q4⟩
    exact (head_yes place A Q n c w hq hn hl hm _ _ _ _ _ _ _ _ _ _ _ _ hd).mono fun r w' ⟨h1, h2⟩ => ⟨⟨v1, v2, v3, v4⟩, h1, fun h => (hd4_val h.2.1 hd).symm, h2⟩
  · have hf : decide (headOk Q place) = false := by rw [decide_eq_false_iff_not]; exact fun h => hm h.1
    rw [hf]
    exact (head_no place A Q n c w hq hn hl hm).mono fun r w' ⟨h1, h2⟩ => ⟨⟨0, 0, 0, 0⟩, h1, fun h => absurd h.1 hm, h2⟩
def segL (h : HdV) (v : Value) (used : Int) : List Value := [.int .u64 h.n, .int .u64 h.ep, .int .u64 h.f, .int .i64 h.w, v, .int .i64 used]
def segC (h : HdV) (v : Value) (used : Int) : Array Value := #[.int .u64 h.n, .int .u64 h.ep, .int .u64 h.f, .int .i64 h.w, v, .int .i64 used]
theorem results_sg {fn : Func} {p u : Tmp} (h : fn.results = #[.cell p 51, .tmp u]) (tmps : Array Value) (w : World) (b : Nat) (x0 x1 x2 x3 x4 x5 : Value) (hp : tmps.getD p undef = .pointer (some ⟨b, 0, none⟩)) (hr : Row w b 51 [x0, x1, x2, x3, x4, x5]) :
    (results fn tmps).run Tryz.prog w = .ok (.tuple #[.agg #[x0, x1, x2, x3, x4, x5], tmps.getD u undef]) w := by
  have hp' : tmps[p]?.getD undef = .pointer (some ⟨b, 0, none⟩) := by simpa using hp
  have hl := run_loadVar_mid (P := Tryz.prog) w b 0 51 [x0, x1, x2, x3, x4, x5] _ (fun j v hj => by
    rw [Nat.zero_add, hr.cell j]
    exact hj) Tryz.underlying51 rfl (by kernel_rfl)
  simp [results, h, hp', asAddr, hl]
def put6 (w : World) (g : Nat) (x0 x1 x2 x3 x4 x5 : Value) : World := (((((w.setCell ⟨g, 0, none⟩ x0).setCell ⟨g, 1, none⟩ x1).setCell ⟨g, 2, none⟩ x2).setCell ⟨g, 3, none⟩ x3).setCell ⟨g, 4, none⟩ x4).setCell ⟨g, 5, none⟩ x5
theorem Row.put6 {w : World} {g : Nat} {T : TypeId} {a b c d e f : Value} (h : Row w g T [a, b, c, d, e, f]) (x0 x1 x2 x3 x4 x5 : Value) : Row (put6 w g x0 x1 x2 x3 x4 x5) g T [x0, x1, x2, x3, x4, x5] :=
  (((((h.set 0 x0 _ rfl).set 1 x1 _ rfl).set 2 x2 _ rfl).set 3 x3 _ rfl).set 4 x4 _ rfl).set 5 x5 _ rfl
theorem below_put6 {w0 w : World} {g : Nat} (h : Below w0.heap.size w0 w) (hg : w0.heap.size ≤ g) (x0 x1 x2 x3 x4 x5 : Value) : Below w0.heap.size w0 (put6 w g x0 x1 x2 x3 x4 x5) :=
  (((((h.setCell hg x0).setCell hg x1).setCell hg x2).setCell hg x3).setCell hg x4).setCell hg x5
theorem put6_keep (w : World) (g : Nat) (x0 x1 x2 x3 x4 x5 : Value) : w.grownBy (put6 w g x0 x1 x2 x3 x4 x5) (some g) :=
  grown_trans (grown_trans (grown_trans (grown_trans (grown_trans (setCell_grown _ _ _ _) (setCell_grown _ _ _ _)) (setCell_grown _ _ _ _)) (setCell_grown _ _ _ _)) (setCell_grown _ _ _ _)) (setCell_grown _ _ _ _)
theorem Row.grownV {w w' : World} {g : Nat} {T : TypeId} {L : List Value} {row : Option Nat} (h : Row w g T L) (hg : w.grownBy w' row) (hne : ∀ k, row = some k → g ≠ k) : Row w' g T L := ⟨(hg.block g h.lt (fun e => hne g e.symm rfl)).trans h.out⟩
theorem Duo.grownV {w w' : World} {b : Nat} {x y : Value} {row : Option Nat} (h : Duo w b x y) (hg : w.grownBy w' row) (hne : ∀ k, row = some k → b ≠ k) : Duo w' b x y := h.keep (hg.block b h.lt (fun e => hne b e.symm rfl))
/-- what Read leaves -/
structure RdK (w w' : World) (s : Seg) (v : Value) (bs : List BtV) : Prop where
  bl : BL w' (w.heap.size + 1) v bs
  eq : bs.map BtV.fst = s.bs
  below : Below w.heap.size w w'
  sep : ∀ b ∈ bs, b.s = true
def zeroSeg : List Value := [.int .u64 0, .int .u64 0, .int .u64 0, .int .i64 0, .slice none 0 0, .int .i64 0]
set_option maxHeartbeats 400000 in
set_option maxRecDepth 100000 in
theorem read_end (A : Option Addr) (P : List UInt8) (n c : Nat) (w : World) (hp : RB w A c P) (hn : n = P.length) (hl : P.length ≤ 140737488355328) (hk : (nextF P 0).kind ≠ 1) :
    Calls Tryz.prog 24 #[.slice A n c] w fun r w' => ∃ v bs, r = .returned (.tuple #[.agg (segC ⟨0, 0, 0, 0⟩ v 0), .int .i64 3]) ∧ RdK w w' noSeg v bs := by
  subst hn
  have HB := Lib.hid (below_alloc1 (Below.refl w.heap.size w) (Nat.le_refl _) (.cells #[.int .u64 0, .int .u64 0, .int .u64 0, .int .i64 0, .slice none 0 0, .int .i64 0] 51))
  have HR := Lib.hid (Row.fresh w w.heap.size rfl 51 zeroSeg #[.int .u64 0, .int .u64 0, .int .u64 0, .int .i64 0, .slice none 0 0, .int .i64 0] rfl)
  have hl1 : P.length ≤ 281474976710656 := by omega
  have HP := Lib.hid (hp.new HB.out)
  have hkb : ((nextF P (0 : Int)).kind : Int) != 1 := by rw [bne_iff_ne]; omega
  have HC := Lib.hid (fun w' (h : RB w' A c P) => next_calls A P P.length c 0 (by decide) w' h rfl hl1)
  generalize nextF P (0 : Int) = r at *
  clear hk hp
  go_enter Tryz.func24, Tryz.ntmps24
  go_wp2_with (go_at_call 56; (with_reducible refine (HC.out _ HP.out).mono ?_); rintro e1 w1 ⟨A1, c1, rfl, hn1⟩; have R1 := (HR.out.new hn1.below).new (Bl.alloc w1 (.cells #[.int .u64 r.place, .slice A1 r.payload.length c1] 99)); have B1 := Lib.hid (belowA (below_then HB.out hn1.below) (.cells #[.int .u64 r.place, .slice A1 r.payload.length c1] 99)); have r0 := R1.c 0 _ rfl; have r1 := R1.c 1 _ rfl; have r2 := R1.c 2 _ rfl; have r3 := R1.c 3 _ rfl; have r4 := R1.c 4 _ rfl; have r5 := R1.c 5 _ rfl; have f0 := R1.fz 0; have f1 := R1.fz 1; have f2 := R1.fz 2; have f3 := R1.fz 3; have f4 := R1.fz 4; have f5 := R1.fz 5; have R1 := Lib.hid R1)
  refine bodyPost_ret (results_sg rfl _ _ w.heap.size _ _ _ _ _ _ rfl (R1.out.put6 _ _ _ _ _ _)) rfl ⟨.slice none 0 0, [], rfl, BL.nil _ _, rfl, below_put6 B1.out (Nat.le_refl _) _ _ _ _ _ _, fun b hb => absurd hb (by simp)⟩
set_option maxHeartbeats 400000 in
set_option maxRecDepth 100000 in
theorem read_no (A : Option Addr) (P : List UInt8) (n c : Nat) (w : World) (hp : RB w A c P) (hn : n = P.length) (hl : P.length ≤ 140737488355328) (hk : (nextF P 0).kind = 1) (hh : ¬ headOk (nextF P 0).payload (nextF P 0).place) :
    Calls Tryz.prog 24 #[.slice A n c] w fun r w' => ∃ v bs, r = .returned (.tuple #[.agg (segC ⟨0, 0, 0, 0⟩ v 0), .int .i64 3]) ∧ RdK w w' noSeg v bs := by
  subst hn
  have HB := Lib.hid (below_alloc1 (Below.refl w.heap.size w) (Nat.le_refl _) (.cells #[.int .u64 0, .int .u64 0, .int .u64 0, .int .i64 0, .slice none 0 0, .int .i64 0] 51))
  have HR := Lib.hid (Row.fresh w w.heap.size rfl 51 zeroSeg #[.int .u64 0, .int .u64 0, .int .u64 0, .int .i64 0, .slice none 0 0, .int .i64 0] rfl)
  have hl1 : P.length ≤ 281474976710656 := by omega
  have HP := Lib.hid (hp.new HB.out)
  have hkb : (((nextF P (0 : Int)).kind : Int) != 1) = false := by rw [bne_eq_false_iff_eq]; omega
  have hpl : (nextF P (0 : Int)).payload.length ≤ 140737488355328 := by obtain ⟨_, _, _, h2, _⟩ := next_whole P 0 hk; omega
  have HC := Lib.hid (fun w' (h : RB w' A c P) => next_calls A P P.length c 0 (by decide) w' h rfl hl1)
  generalize nextF P (0 : Int) = r at *
  have hdf : decide (headOk r.payload r.place) = false := by rw [decide_eq_false_iff_not]; exact hh
  have HH : Hid (∀ (w : World) (A : Option Addr) (c : Nat), RB w A c r.payload → Calls Tryz.prog 57 #[.agg #[.int .u64 r.place, .slice A r.payload.length c]] w fun e w' => ∃ h : HdV, e = .returned (.tuple #[.agg #[.int .u64 h.n, .int .u64 h.ep, .int .u64 h.f, .int .i64 h.w], .bool false]) ∧ Below w.heap.size w w') := Lib.hid fun w A c h => by
    have := headN r.place A r.payload _ c w h rfl hpl
    rw [hdf] at this
    exact this.mono fun e w' ⟨h, h1, _, h3⟩ => ⟨h, h1, h3⟩
  clear hk hp hh hdf
  go_enter Tryz.func24, Tryz.ntmps24
  go_wp2_with (first
    | (go_at_call 56; (with_reducible refine (HC.out _ HP.out).mono ?_); rintro e1 w1 ⟨A1, c1, rfl, hn1⟩; have F1 := Pair.fresh w1 (.int .u64 r.place) (.slice A1 r.payload.length c1) 99; have z0 := F1.c0; have z1 := F1.c1; have Q1 := Lib.hid (hn1.own.rb.new (Bl.alloc w1 (.cells #[.int .u64 r.place, .slice A1 r.payload.length c1] 99))); have R1 := Lib.hid ((HR.out.new hn1.below).new (Bl.alloc w1 (.cells #[.int .u64 r.place, .slice A1 r.payload.length c1] 99))); have B1 := Lib.hid (belowA (below_then HB.out hn1.below) (.cells #[.int .u64 r.place, .slice A1 r.payload.length c1] 99)))
    | (go_at_call 57; go_loud (with_reducible refine (HH.out _ _ _ Q1.out).mono ?_); rintro e2 w2 ⟨h, rfl, hb2⟩; have n2 := Bl.alloc w2 (.cells #[.int .u64 h.n, .int .u64 h.ep, .int .u64 h.f, .int .i64 h.w] 32); have R2 := (R1.out.new hb2).new n2; have B2 := Lib.hid (belowA (below_then B1.out hb2) (.cells #[.int .u64 h.n, .int .u64 h.ep, .int .u64 h.f, .int .i64 h.w] 32)); have r0 := R2.c 0 _ rfl; have r1 := R2.c 1 _ rfl; have r2 := R2.c 2 _ rfl; have r3 := R2.c 3 _ rfl; have r4 := R2.c 4 _ rfl; have r5 := R2.c 5 _ rfl; have f0 := R2.fz 0; have f1 := R2.fz 1; have f2 := R2.fz 2; have f3 := R2.fz 3; have f4 := R2.fz 4; have f5 := R2.fz 5; have R2 := Lib.hid R2))
  refine bodyPost_ret (results_sg rfl _ _ w.heap.size _ _ _ _ _ _ rfl (R2.out.put6 _ _ _ _ _ _)) rfl ⟨.slice none 0 0, [], rfl, BL.nil _ _, rfl, below_put6 B2.out (Nat.le_refl _) _ _ _ _ _ _, fun b hb => absurd hb (by simp)⟩
set_option maxHeartbeats 1000000 in
set_option maxRecDepth 100000 in
theorem read_ok (A : Option Addr) (P : List UInt8) (n c : Nat) (w : World) (hp : RB w A c P) (hn : n = P.length) (hl : P.length ≤ 140737488355328) (hk : (nextF P 0).kind = 1) (hh : headOk (nextF P 0).payload (nextF P 0).place) (s : Seg) (hs : readF P = s) :
    Calls Tryz.prog 24 #[.slice A n c] w fun r w' => ∃ v bs, r = .returned (.tuple #[.agg (segC s.h v s.used), .int .i64 0]) ∧ RdK w w' s v bs := by
  subst hn
  have hs0 : s = ⟨headV (nextF P 0).payload, (readTo (P.length + 1) P ((nextF P 0).payload.length + 18) (headV (nextF P 0).payload).f).bs, (readTo (P.length + 1) P ((nextF P 0).payload.length + 18) (headV (nextF P 0).payload).f).used, 0⟩ := by
    rw [← hs]; unfold readF; rw [if_pos ⟨hk, hh⟩]
  have HB := Lib.hid (below_alloc1 (Below.refl w.heap.size w) (Nat.le_refl _) (.cells #[.int .u64 0, .int .u64 0, .int .u64 0, .int .i64 0, .slice none 0 0, .int .i64 0] 51))
  have HR := Lib.hid (Row.fresh w w.heap.size rfl 51 zeroSeg #[.int .u64 0, .int .u64 0, .int .u64 0, .int .i64 0, .slice none 0 0, .int .i64 0] rfl)
  have hl1 : P.length ≤ 281474976710656 := by omega
  have HP := Lib.hid (hp.new HB.out)
  have HP0 := Lib.hid hp
  have hkb : (((nextF P (0 : Int)).kind : Int) != 1) = false := by rw [bne_eq_false_iff_eq]; omega
  have HNX : Hid (∀ (w' : World) (at_ : Nat) (r : Nx), at_ ≤ P.length → nextF P at_ = r → RB w' A c P → Calls Tryz.prog 56 #[.slice A P.length c, .int .i64 at_] w' fun e w'' => ∃ A' c', e = .returned (.tuple #[.agg #[.int .u64 r.place, .slice A' r.payload.length c'], .int .i64 r.next, .int .i64 r.kind]) ∧ NewB w' w'' (.slice A' r.payload.length c') r.payload) := Lib.hid fun w' at_ r h1 h2 h3 => by
    subst h2; exact next_calls A P P.length c at_ (by omega) w' h3 rfl hl1
  have HC := Lib.hid (fun w' (h : RB w' A c P) => next_calls A P P.length c 0 (by decide) w' h rfl hl1)
  obtain ⟨a0, e0, hp1, hp2, hpl, hnx, hle, hla⟩ := next_whole P 0 hk
  have e9 := Int.ofNat_eq_zero.1 e0.symm
  subst e9
  clear hla e0
  have hpl : (nextF P (0 : Int)).payload.length ≤ 140737488355328 := by omega
  generalize nextF P (0 : Int) = r at *
  have hdf : decide (headOk r.payload r.place) = true := by rw [decide_eq_true_iff]; exact hh
  have HHV := headV_ok r.payload hh.2.2.1 hh.2.2.2.1
  have HH : Hid (∀ (w : World) (A : Option Addr) (c : Nat), RB w A c r.payload → Calls Tryz.prog 57 #[.agg #[.int .u64 r.place, .slice A r.payload.length c]] w fun e w' => e = .returned (.tuple #[.agg #[.int .u64 (headV r.payload).n, .int .u64 (headV r.payload).ep, .int .u64 (headV r.payload).f, .int .i64 (headV r.payload).w], .bool true]) ∧ Below w.heap.size w w') := Lib.hid fun w A c h => by
    have := headN r.place A r.payload _ c w h rfl hpl
    rw [hdf] at this
    exact this.mono fun e w' ⟨h, h1, h2, h3⟩ => ⟨by rw [h1, h2 hh], h3⟩
  obtain ⟨u0, hu0⟩ : ∃ u0 : Nat, u0 = r.payload.length + 18 := ⟨_, rfl⟩
  have hnu : r.next = (u0 : Int) := by rw [hnx, hu0]; omega
  have hul : u0 ≤ P.length := by omega
  rw [← hu0] at hs0
  generalize headV r.payload = hv at *
  have HS := Lib.hid hs0
  have HU0 := Lib.hid hu0
  clear hk hp hh hdf hs hs0 hu0 hnx hle hp1 hp2 hpl
  go_enter Tryz.func24, Tryz.ntmps24
  go_wp2_with (first
    | (go_at_call 56; (with_reducible refine (HC.out _ HP.out).mono ?_); rintro e1 w1 ⟨A1, c1, rfl, hn1⟩; have F1 := Pair.fresh w1 (.int .u64 r.place) (.slice A1 r.payload.length c1) 99; have z0 := F1.c0; have z1 := F1.c1; have Q1 := Lib.hid (hn1.own.rb.new (Bl.alloc w1 (.cells #[.int .u64 r.place, .slice A1 r.payload.length c1] 99))); have R1 := Lib.hid ((HR.out.new hn1.below).new (Bl.alloc w1 (.cells #[.int .u64 r.place, .slice A1 r.payload.length c1] 99))); have B1 := Lib.hid (belowA (below_then HB.out hn1.below) (.cells #[.int .u64 r.place, .slice A1 r.payload.length c1] 99)); have P1 := Lib.hid ((HP.out.new hn1.below).new (Bl.alloc w1 (.cells #[.int .u64 r.place, .slice A1 r.payload.length c1] 99))))
    | (go_at_call 57; go_loud (with_reducible refine (HH.out _ _ _ Q1.out).mono ?_); rintro e2 w2 ⟨rfl, hb2⟩; have n2 := Bl.alloc w2 (.cells #[.int .u64 hv.n, .int .u64 hv.ep, .int .u64 hv.f, .int .i64 hv.w] 32); have R2 := Lib.hid ((R1.out.new hb2).new n2); have B2 := Lib.hid (belowA (below_then B1.out hb2) (.cells #[.int .u64 hv.n, .int .u64 hv.ep, .int .u64 hv.f, .int .i64 hv.w] 32)); have P2 := Lib.hid ((P1.out.new hb2).new n2); have H2 := Row.fresh w2 w2.heap.size rfl 32 [.int .u64 hv.n, .int .u64 hv.ep, .int .u64 hv.f, .int .i64 hv.w] #[.int .u64 hv.n, .int .u64 hv.ep, .int .u64 hv.f, .int .i64 hv.w] rfl; have h0 := H2.c 0 _ rfl; have h1 := H2.c 1 _ rfl; have h2 := H2.c 2 _ rfl; have h3 := H2.c 3 _ rfl))
  have n3 := Bl.alloc (w2.alloc (.cells #[.int .u64 hv.n, .int .u64 hv.ep, .int .u64 hv.f, .int .i64 hv.w] 32)) (.cells #[.int .u64 hv.n, .int .u64 hv.ep, .int .u64 hv.f, .int .i64 hv.w, .slice none 0 0, .int .i64 u0] 51)
  have R3 := Lib.hid (R2.out.new n3)
  have B3 := Lib.hid (belowA B2.out (.cells #[.int .u64 hv.n, .int .u64 hv.ep, .int .u64 hv.f, .int .i64 hv.w, .slice none 0 0, .int .i64 u0] 51))
  have P3 := Lib.hid (P2.out.new n3)
  have S3 := Lib.hid (Row.fresh (w2.alloc (.cells #[.int .u64 hv.n, .int .u64 hv.ep, .int .u64 hv.f, .int .i64 hv.w] 32)) (w2.heap.size + 1) (asz _ _).symm 51 (segL hv (.slice none 0 0) u0) #[.int .u64 hv.n, .int .u64 hv.ep, .int .u64 hv.f, .int .i64 hv.w, .slice none 0 0, .int .i64 u0] rfl)
  have Z3 : Hid (w.heap.size < w2.heap.size) := Lib.hid (Nat.lt_of_lt_of_le R1.out.lt hb2.size)
  clear R1 R2 B1 B2 P1 P2 Q1 H2 h0 h1 h2 h3 F1 z0 z1 n2 n3 hn1 hb2
  obtain ⟨wl, hwl⟩ : ∃ wl, wl = (w2.alloc (.cells #[.int .u64 hv.n, .int .u64 hv.ep, .int .u64 hv.f, .int .i64 hv.w] 32)).alloc (.cells #[.int .u64 hv.n, .int .u64 hv.ep, .int .u64 hv.f, .int .i64 hv.w, .slice none 0 0, .int .i64 u0] 51) := ⟨_, rfl⟩
  rw [← hwl] at R3 B3 P3 S3 ⊢
  have W3 : Hid (w2.heap.size + 2 ≤ wl.heap.size) := Lib.hid (by rw [hwl, asz2]; omega)
  clear hwl
  go_loopw [10] (fun x wr => ∃ (used ix fu : Nat) (v : Value) (bs : List BtV), x = .int .u64 ix ∧ ix ≤ 18446744073709551615 ∧ used ≤ P.length ∧ P.length < used + fu ∧ bs.length * 22 ≤ used ∧ Hid (s = ⟨hv, bs.map BtV.fst ++ (readTo fu P used ix).bs, (readTo fu P used ix).used, 0⟩) ∧ Hid (Row wr w.heap.size 51 zeroSeg) ∧ Row wr (w2.heap.size + 1) 51 (segL hv v used) ∧ Hid (BL wr (w2.heap.size + 2) v bs) ∧ Hid (RB wr A c P) ∧ Hid (Below w.heap.size w wr) ∧ Hid (w2.heap.size + 2 ≤ wr.heap.size) ∧ Hid (∀ b ∈ bs, b.s = true)) (fun x _ => 18446744073709551616 - (RowKit.intOf x).toNat)
  case atStart => exact ⟨u0, hv.f, P.length + 1, .slice none 0 0, [], rfl, HHV.f, hul, by omega, Nat.zero_le _, Lib.hid (by rw [HS.out]; rfl), R3, S3.out, Lib.hid (BL.nil _ _), P3, B3, W3, Lib.hid (fun b hb => absurd hb (by simp))⟩
  case round =>
    obtain ⟨used, ix, fu, v, bs, rfl, hix, hul, hfu, hbl, HSS, HRR, HSG, HBL, HPP, HBB, HWW, HSP⟩ := hrel
    obtain ⟨Av, cv, rfl⟩ := HBL.out.form
    obtain ⟨f, rfl⟩ : ∃ f, fu = f + 1 := ⟨fu - 1, by omega⟩
    obtain ⟨⟨k, pl, pay, nx⟩, hreq⟩ : ∃ r, nextF P (used : Int) = r := ⟨_, rfl⟩
    have HREQ := Lib.hid hreq
    have s0 := HSG.c 0 _ rfl
    have s1 := HSG.c 1 _ rfl
    have s2 := HSG.c 2 _ rfl
    have s3 := HSG.c 3 _ rfl
    have s4 := HSG.c 4 _ rfl
    have s5 := HSG.c 5 _ rfl
    have hno : ¬ oneOk P used ix → Hid (s = ⟨hv, bs.map BtV.fst, used, 0⟩) := fun h => Lib.hid (by rw [HSS.out, readTo_end _ _ _ _ h, List.append_nil])
    by_cases h1 : k = 1
    · subst h1
      have hkb1 : ((((1 : Nat)) : Int) != 1) = false := by decide
      have hpl : pay.length ≤ 140737488355328 := by
        obtain ⟨_, _, _, h2, _⟩ := next_whole P used (by rw [hreq]); rw [hreq] at h2; simp only at h2; omega
      by_cases h2 : pl = ix
      · subst h2
        have hpb : ((pl : Int) != (pl : Int)) = false := bne_self_eq_false _
        obtain ⟨t, ht⟩ : ∃ t, decB pay = t := ⟨_, rfl⟩
        have HT := Lib.hid ht
        by_cases h3 : t.e = 0
        · have hee : ((t.e : Int) != 0) = false := by rw [bne_eq_false_iff_eq]; omega
          by_cases h4 : t.f = pl
          · have hff : ((t.f : Int) != (pl : Int)) = false := by rw [bne_eq_false_iff_eq]; omega
            have hok := oneOk_back P used pl ⟨by rw [hreq], by rw [hreq], by rw [hreq]; simp only; rw [ht]; exact h3, by rw [hreq]; simp only; rw [ht]; exact h4⟩
            rw [hreq] at hok
            simp only at hok
            rw [ht] at hok
            have HOK := Lib.hid hok
            have hnx : nx = ((used + pay.length + 18 : Nat) : Int) := by have := hok.next; rw [hreq] at this; injection this
            have hst := fun f => readTo_step f P used pl pay t.l hok
            have HST := Lib.hid hst
            have hle := hok.le
            have hls := hok.least
            have hft := hok.fits
            have hsm := hok.some
            have hu64 : IntKind.u64.wrap (t.l.length : Int) = (t.l.length : Int) := by rw [IntKind.wrap_u64]; omega
            have hadd : IntKind.u64.wrap ((pl : Int) + (t.l.length : Int)) = ((pl + t.l.length : Nat) : Int) := by rw [IntKind.wrap_u64]; omega
            have HTF := Lib.hid h4
            clear hno hok hst ht hreq h3 h4
            go_wp2_with (first
              | (go_at_call 56; go_loud (with_reducible refine (HNX.out _ used _ hul HREQ.out HPP.out).mono ?_); rintro e3 w3 ⟨A3, c3, rfl, hn3⟩; have n3 := Bl.alloc w3 (.cells #[.int .u64 pl, .slice A3 pay.length c3] 99); have R4 := (HRR.out.new hn3.below).new n3; have S4 := (HSG.new hn3.below).new n3; have F4 := Pair.fresh w3 (.int .u64 pl) (.slice A3 pay.length c3) 99; have z0 := F4.c0; have z1 := F4.c1; have P4 := Lib.hid ((HPP.out.new hn3.below).new n3); have Q4 := Lib.hid (hn3.own.rb.new n3); have B4 := Lib.hid (belowA (below_then HBB.out hn3.below) (.cells #[.int .u64 pl, .slice A3 pay.length c3] 99)); have L4 := Lib.hid ((HBL.out.new hn3.below).new n3); have W4 := Lib.hid (Nat.le_trans (Nat.le_trans HWW.out hn3.below.size) n3.size); have R4 := Lib.hid R4; have S4 := Lib.hid S4; have hs4 := hn3.below.size; clear hn3 n3)
              | (go_at_call 58; go_loud (with_reducible refine (decodeBK_calls A3 pay _ c3 _ Q4.out rfl hpl t HT.out).mono ?_); rintro e5 w5 ⟨A5, c5, rfl, hk5⟩; have hb5 := hk5.below; have n5 := Bl.alloc w5 (.cells #[.int .u64 t.f, .slice A5 t.l.length c5] 35); have R6 := (R4.out.new hb5).new n5; have S6 := (S4.out.new hb5).new n5; have D6 := Duo.fresh w5 w5.heap.size rfl (.int .u64 t.f) (.slice A5 t.l.length c5) 35; have y0 := D6.c0; have y1 := D6.c1; have P6 := Lib.hid ((P4.out.new hb5).new n5); have B6 := Lib.hid (belowA (below_then B4.out hb5) (.cells #[.int .u64 t.f, .slice A5 t.l.length c5] 35)); have L6 := Lib.hid ((L4.out.new hb5).new n5); have W6 := Lib.hid (Nat.le_trans (Nat.le_trans W4.out hb5.size) n5.size); have s4 := S6.c 4 _ rfl; have s5 := S6.c 5 _ rfl; have R6 := Lib.hid R6; have S6 := Lib.hid S6)
              | (obtain ⟨es, cc, hes, hen, hEL, hSE⟩ := hk5.out; have hsz5 := hb5.size; rw [asz] at hsz5; have hBT := BtAt.mk' t.f A5 c5 cc es (w3.heap.size + 1) w5 (by rw [← asz w3 (.cells #[.int .u64 pl, .slice A3 pay.length c3] 99)]; exact hEL) (by rw [← asz w3 (.cells #[.int .u64 pl, .slice A3 pay.length c3] 99)]; exact hSE); have HBT := Lib.hid ((hBT.new (Bl.alloc w5 (.cells #[.int .u64 t.f, .slice A5 t.l.length c5] 35))).new (Bl.alloc _ (.cells #[.int .u64 t.f, .slice A5 t.l.length c5] 35))); have HES := Lib.hid hes; have HEN := Lib.hid hen; have L7 := Lib.hid (L6.out.new (Bl.alloc _ (.cells #[.int .u64 t.f, .slice A5 t.l.length c5] 35))); have S7 := Lib.hid (S6.out.new (Bl.alloc _ (.cells #[.int .u64 t.f, .slice A5 t.l.length c5] 35))); have R7 := Lib.hid (R6.out.new (Bl.alloc _ (.cells #[.int .u64 t.f, .slice A5 t.l.length c5] 35))); have P7 := Lib.hid (P6.out.new (Bl.alloc _ (.cells #[.int .u64 t.f, .slice A5 t.l.length c5] 35))); have B7 := Lib.hid (belowA B6.out (.cells #[.int .u64 t.f, .slice A5 t.l.length c5] 35)); have D7 := Lib.hid (D6.new (Bl.alloc _ (.cells #[.int .u64 t.f, .slice A5 t.l.length c5] 35))); clear hBT hes hen hEL hSE hk5; (refine wp_appendBt btt rfl (.tmp 71) (.tmp 73) rfl (w2.heap.size + 2) (.slice Av bs.length cv) bs rfl L7.out ⟨t.f, A5, c5, cc, es, w3.heap.size + 1, w5.heap.size, true⟩ ⟨w5.heap.size + 1, 0, Option.none⟩ rfl (pair_at (w5.alloc (.cells #[.int .u64 t.f, .slice A5 t.l.length c5] 35)) (w5.heap.size + 1) (asz _ _) _ _ _).1 ((pair_at (w5.alloc (.cells #[.int .u64 t.f, .slice A5 t.l.length c5] 35)) (w5.heap.size + 1) (asz _ _) (.int .u64 t.f) (.slice A5 t.l.length c5) 35).2.trans (congrArg (fun n => some (Value.slice A5 n c5)) HEN.out)) HBT.out (by have := HWW.out; show w2.heap.size + 2 ≤ w3.heap.size + 1; omega) (fun d hd => Nat.le_trans (HBL.out.at_ d hd).hi (by show wr.heap.size ≤ w3.heap.size + 1; omega)) (fun k hk => by have := (HBL.out.lt k hk).2; show k < w3.heap.size + 1; omega) (by omega) (by have := HWW.out; rw [asz, asz]; omega) fun v8 w8 hbl8 hg8 => ?_); (obtain ⟨A8, c8, rfl⟩ := hbl8.form; have hlt8 := L7.out.lt; have S8 := S7.out.grownV hg8 (fun k hk => by have := (hlt8 k hk).1; omega); have s4 := S8.c 4 _ rfl; have s5 := S8.c 5 _ rfl; have f4 := S8.fz 4; have f5 := S8.fz 5; have D8 := D7.out.grownV hg8 (fun k hk => by have := (HBL.out.lt k hk).2; omega); have y0 := D8.c0; have y1 := D8.c1; have ne1 : w5.heap.size ≠ w2.heap.size + 1 := (by have := HWW.out; omega); have ne2 : w2.heap.size + 1 ≠ w5.heap.size := Ne.symm ne1; have S8 := Lib.hid S8; have hbl8 := Lib.hid hbl8)))
            go_roundw
            case rel =>
              have B8 := (B7.out.grown hg8 B7.out.size (fun k hk => by have := (hlt8 k hk).1; have := Z3.out; omega))
              have B9 := ((B8.setCell (p := ⟨w2.heap.size + 1, 4, none⟩) (by have := Z3.out; show w.heap.size ≤ w2.heap.size + 1; omega) (.slice A8 (bs.length + 1) c8)).setCell (p := ⟨w2.heap.size + 1, 5, none⟩) (by have := Z3.out; show w.heap.size ≤ w2.heap.size + 1; omega) (.int .i64 ((used : Int) + (pay.length : Int) + 18)))
              have hlen : (bs ++ [(⟨t.f, A5, c5, cc, es, w3.heap.size + 1, w5.heap.size, true⟩ : BtV)]).length = bs.length + 1 := by simp
              have hbl9 := hbl8.out
              rw [hlen] at hbl9
              refine ⟨used + pay.length + 18, pl + t.l.length, f, .slice A8 (bs.length + 1) c8, bs ++ [⟨t.f, A5, c5, cc, es, w3.heap.size + 1, w5.heap.size, true⟩], rfl, by omega, hle, by omega, by rw [hlen]; omega, Lib.hid ?_, Lib.hid ?_, ?_, Lib.hid ?_, Lib.hid (HP0.out.new B9), Lib.hid B9, Lib.hid ?_, Lib.hid (fun b hb => by rcases List.mem_append.1 hb with hb | hb; exact HSP.out b hb; rw [List.mem_singleton.1 hb])⟩
              · rw [HSS.out, HST.out f]
                simp only [List.map_append, List.map_cons, List.map_nil, List.append_assoc, List.cons_append, List.nil_append]
                have e1 : BtV.fst ⟨t.f, A5, c5, cc, es, w3.heap.size + 1, w5.heap.size, true⟩ = (pl, t.l) := by
                  show (t.f, ensOf es) = _
                  rw [HTF.out, HES.out]
                rw [e1]
              · exact ((R7.out.grownV hg8 (fun k hk => by have := (hlt8 k hk).1; have := Z3.out; omega)).grown (setCell_grown _ _ _ _) (by have := Z3.out; omega)).grown (setCell_grown _ _ _ _) (by have := Z3.out; omega)
              · exact (S8.out.set 4 _ _ rfl).set 5 _ _ rfl
              · exact (hbl9.setLow (by omega)).setLow (by omega)
              · have h1 := (setCell_grown w8 (w2.heap.size + 1) 4 (.slice A8 (bs.length + 1) c8)).size
                have h2 := (setCell_grown (w8.setCell ⟨w2.heap.size + 1, 4, none⟩ (.slice A8 (bs.length + 1) c8)) (w2.heap.size + 1) 5 (.int .i64 ((used : Int) + (pay.length : Int) + 18))).size
                have h3 := hg8.size
                have h4 := (asz2 w5 (.cells #[.int .u64 t.f, .slice A5 t.l.length c5] 35) (.cells #[.int .u64 t.f, .slice A5 t.l.length c5] 35))
                have := HWW.out
                omega
            case measure => simp [RowKit.intOf]; omega
          · have hff : ((t.f : Int) != (pl : Int)) = true := by rw [bne_iff_ne]; omega
            have HE := hno (fun h => h4 (by have := h.2.2.2; rw [hreq] at this; simp only at this; rw [ht] at this; exact this))
            clear hno ht hreq
            go_wp2_with (first
              | (go_at_call 56; go_loud (with_reducible refine (HNX.out _ used _ hul HREQ.out HPP.out).mono ?_); rintro e3 w3 ⟨A3, c3, rfl, hn3⟩; have n3 := Bl.alloc w3 (.cells #[.int .u64 pl, .slice A3 pay.length c3] 99); have R4 := (HRR.out.new hn3.below).new n3; have S4 := (HSG.new hn3.below).new n3; have F4 := Pair.fresh w3 (.int .u64 pl) (.slice A3 pay.length c3) 99; have z0 := F4.c0; have z1 := F4.c1; have P4 := Lib.hid ((HPP.out.new hn3.below).new n3); have Q4 := Lib.hid (hn3.own.rb.new n3); have B4 := Lib.hid (belowA (below_then HBB.out hn3.below) (.cells #[.int .u64 pl, .slice A3 pay.length c3] 99)); have L4 := Lib.hid ((HBL.out.new hn3.below).new n3); have W4 := Lib.hid (Nat.le_trans (Nat.le_trans HWW.out hn3.below.size) n3.size); have R4 := Lib.hid R4; have S4 := Lib.hid S4; have hs4 := hn3.below.size; clear hn3 n3)
              | (go_at_call 58; go_loud (with_reducible refine (decodeBK_calls A3 pay _ c3 _ Q4.out rfl hpl t HT.out).mono ?_); rintro e5 w5 ⟨A5, c5, rfl, hk5⟩; have hb5 := hk5.below; have n5 := Bl.alloc w5 (.cells #[.int .u64 t.f, .slice A5 t.l.length c5] 35); have R6 := (R4.out.new hb5).new n5; have S6 := (S4.out.new hb5).new n5; have D6 := Duo.fresh w5 w5.heap.size rfl (.int .u64 t.f) (.slice A5 t.l.length c5) 35; have y0 := D6.c0; have y1 := D6.c1; have P6 := Lib.hid ((P4.out.new hb5).new n5); have B6 := Lib.hid (belowA (below_then B4.out hb5) (.cells #[.int .u64 t.f, .slice A5 t.l.length c5] 35)); have L6 := Lib.hid ((L4.out.new hb5).new n5); have W6 := Lib.hid (Nat.le_trans (Nat.le_trans W4.out hb5.size) n5.size); have r0 := R6.c 0 _ rfl; have f0 := R6.fz 0; have r1 := R6.c 1 _ rfl; have f1 := R6.fz 1; have r2 := R6.c 2 _ rfl; have f2 := R6.fz 2; have r3 := R6.c 3 _ rfl; have f3 := R6.fz 3; have r4 := R6.c 4 _ rfl; have f4 := R6.fz 4; have r5 := R6.c 5 _ rfl; have f5 := R6.fz 5; have s0 := S6.c 0 _ rfl; have s1 := S6.c 1 _ rfl; have s2 := S6.c 2 _ rfl; have s3 := S6.c 3 _ rfl; have s4 := S6.c 4 _ rfl; have s5 := S6.c 5 _ rfl; have R6 := Lib.hid R6; have S6 := Lib.hid S6))
            refine bodyPost_ret (results_sg rfl _ _ w.heap.size _ _ _ _ _ _ rfl (R6.out.put6 _ _ _ _ _ _)) rfl ⟨_, bs, by rw [HE.out]; rfl, (L6.out.keep (fun k h1 _ => (put6_keep _ w.heap.size _ _ _ _ _ _).block k (by assumption) (fun e => by have := Option.some.inj e; have := Z3.out; omega)) (put6_keep _ w.heap.size _ _ _ _ _ _).size).mono (by have := Z3.out; omega), by rw [HE.out], below_put6 B6.out (Nat.le_refl _) _ _ _ _ _ _, HSP.out⟩
        · have hee : ((t.e : Int) != 0) = true := by rw [bne_iff_ne]; omega
          have HE := hno (fun h => h3 (by have := h.2.2.1; rw [hreq] at this; simp only at this; rw [ht] at this; exact this))
          clear hno ht hreq
          go_wp2_with (first
            | (go_at_call 56; go_loud (with_reducible refine (HNX.out _ used _ hul HREQ.out HPP.out).mono ?_); rintro e3 w3 ⟨A3, c3, rfl, hn3⟩; have n3 := Bl.alloc w3 (.cells #[.int .u64 pl, .slice A3 pay.length c3] 99); have R4 := (HRR.out.new hn3.below).new n3; have S4 := (HSG.new hn3.below).new n3; have F4 := Pair.fresh w3 (.int .u64 pl) (.slice A3 pay.length c3) 99; have z0 := F4.c0; have z1 := F4.c1; have P4 := Lib.hid ((HPP.out.new hn3.below).new n3); have Q4 := Lib.hid (hn3.own.rb.new n3); have B4 := Lib.hid (belowA (below_then HBB.out hn3.below) (.cells #[.int .u64 pl, .slice A3 pay.length c3] 99)); have L4 := Lib.hid ((HBL.out.new hn3.below).new n3); have W4 := Lib.hid (Nat.le_trans (Nat.le_trans HWW.out hn3.below.size) n3.size); have R4 := Lib.hid R4; have S4 := Lib.hid S4; have hs4 := hn3.below.size; clear hn3 n3)
            | (go_at_call 58; go_loud (with_reducible refine (decodeBK_calls A3 pay _ c3 _ Q4.out rfl hpl t HT.out).mono ?_); rintro e5 w5 ⟨A5, c5, rfl, hk5⟩; have hb5 := hk5.below; have n5 := Bl.alloc w5 (.cells #[.int .u64 t.f, .slice A5 t.l.length c5] 35); have R6 := (R4.out.new hb5).new n5; have S6 := (S4.out.new hb5).new n5; have D6 := Duo.fresh w5 w5.heap.size rfl (.int .u64 t.f) (.slice A5 t.l.length c5) 35; have y0 := D6.c0; have y1 := D6.c1; have P6 := Lib.hid ((P4.out.new hb5).new n5); have B6 := Lib.hid (belowA (below_then B4.out hb5) (.cells #[.int .u64 t.f, .slice A5 t.l.length c5] 35)); have L6 := Lib.hid ((L4.out.new hb5).new n5); have W6 := Lib.hid (Nat.le_trans (Nat.le_trans W4.out hb5.size) n5.size); have r0 := R6.c 0 _ rfl; have f0 := R6.fz 0; have r1 := R6.c 1 _ rfl; have f1 := R6.fz 1; have r2 := R6.c 2 _ rfl; have f2 := R6.fz 2; have r3 := R6.c 3 _ rfl; have f3 := R6.fz 3; have r4 := R6.c 4 _ rfl; have f4 := R6.fz 4; have r5 := R6.c 5 _ rfl; have f5 := R6.fz 5; have s0 := S6.c 0 _ rfl; have s1 := S6.c 1 _ rfl; have s2 := S6.c 2 _ rfl; have s3 := S6.c 3 _ rfl; have s4 := S6.c 4 _ rfl; have s5 := S6.c 5 _ rfl; have R6 := Lib.hid R6; have S6 := Lib.hid S6))
          refine bodyPost_ret (results_sg rfl _ _ w.heap.size _ _ _ _ _ _ rfl (R6.out.put6 _ _ _ _ _ _)) rfl ⟨_, bs, by rw [HE.out]; rfl, (L6.out.keep (fun k h1 _ => (put6_keep _ w.heap.size _ _ _ _ _ _).block k (by assumption) (fun e => by have := Option.some.inj e; have := Z3.out; omega)) (put6_keep _ w.heap.size _ _ _ _ _ _).size).mono (by have := Z3.out; omega), by rw [HE.out], below_put6 B6.out (Nat.le_refl _) _ _ _ _ _ _, HSP.out⟩
      · have hpb : ((pl : Int) != (ix : Int)) = true := by rw [bne_iff_ne]; omega
        have HE := hno (fun h => h2 (by have := h.2.1; rw [hreq] at this; exact this))
        clear hno hreq
        go_wp2_with (go_at_call 56; go_loud (with_reducible refine (HNX.out _ used _ hul HREQ.out HPP.out).mono ?_); rintro e3 w3 ⟨A3, c3, rfl, hn3⟩; have n3 := Bl.alloc w3 (.cells #[.int .u64 pl, .slice A3 pay.length c3] 99); have R4 := (HRR.out.new hn3.below).new n3; have S4 := (HSG.new hn3.below).new n3; have F4 := Pair.fresh w3 (.int .u64 pl) (.slice A3 pay.length c3) 99; have z0 := F4.c0; have z1 := F4.c1; have P4 := Lib.hid ((HPP.out.new hn3.below).new n3); have Q4 := Lib.hid (hn3.own.rb.new n3); have B4 := Lib.hid (belowA (below_then HBB.out hn3.below) (.cells #[.int .u64 pl, .slice A3 pay.length c3] 99)); have L4 := Lib.hid ((HBL.out.new hn3.below).new n3); have W4 := Lib.hid (Nat.le_trans (Nat.le_trans HWW.out hn3.below.size) n3.size); have r0 := R4.c 0 _ rfl; have f0 := R4.fz 0; have r1 := R4.c 1 _ rfl; have f1 := R4.fz 1; have r2 := R4.c 2 _ rfl; have f2 := R4.fz 2; have r3 := R4.c 3 _ rfl; have f3 := R4.fz 3; have r4 := R4.c 4 _ rfl; have f4 := R4.fz 4; have r5 := R4.c 5 _ rfl; have f5 := R4.fz 5; have s0 := S4.c 0 _ rfl; have s1 := S4.c 1 _ rfl; have s2 := S4.c 2 _ rfl; have s3 := S4.c 3 _ rfl; have s4 := S4.c 4 _ rfl; have s5 := S4.c 5 _ rfl; have R4 := Lib.hid R4; have S4 := Lib.hid S4; have hs4 := hn3.below.size; clear hn3 n3)
        refine bodyPost_ret (results_sg rfl _ _ w.heap.size _ _ _ _ _ _ rfl (R4.out.put6 _ _ _ _ _ _)) rfl ⟨_, bs, by rw [HE.out]; rfl, (L4.out.keep (fun k h1 _ => (put6_keep _ w.heap.size _ _ _ _ _ _).block k (by assumption) (fun e => by have := Option.some.inj e; have := Z3.out; omega)) (put6_keep _ w.heap.size _ _ _ _ _ _).size).mono (by have := Z3.out; omega), by rw [HE.out], below_put6 B4.out (Nat.le_refl _) _ _ _ _ _ _, HSP.out⟩
    · have hkb1 : ((k : Int) != 1) = true := by rw [bne_iff_ne]; omega
      have HE := hno (fun h => h1 (by have := h.1; rw [hreq] at this; exact this))
      clear hno hreq
      go_wp2_with (go_at_call 56; go_loud (with_reducible refine (HNX.out _ used _ hul HREQ.out HPP.out).mono ?_); rintro e3 w3 ⟨A3, c3, rfl, hn3⟩; have n3 := Bl.alloc w3 (.cells #[.int .u64 pl, .slice A3 pay.length c3] 99); have R4 := (HRR.out.new hn3.below).new n3; have S4 := (HSG.new hn3.below).new n3; have F4 := Pair.fresh w3 (.int .u64 pl) (.slice A3 pay.length c3) 99; have z0 := F4.c0; have z1 := F4.c1; have P4 := Lib.hid ((HPP.out.new hn3.below).new n3); have Q4 := Lib.hid (hn3.own.rb.new n3); have B4 := Lib.hid (belowA (below_then HBB.out hn3.below) (.cells #[.int .u64 pl, .slice A3 pay.length c3] 99)); have L4 := Lib.hid ((HBL.out.new hn3.below).new n3); have W4 := Lib.hid (Nat.le_trans (Nat.le_trans HWW.out hn3.below.size) n3.size); have r0 := R4.c 0 _ rfl; have f0 := R4.fz 0; have r1 := R4.c 1 _ rfl; have f1 := R4.fz 1; have r2 := R4.c 2 _ rfl; have f2 := R4.fz 2; have r3 := R4.c 3 _ rfl; have f3 := R4.fz 3; have r4 := R4.c 4 _ rfl; have f4 := R4.fz 4; have r5 := R4.c 5 _ rfl; have f5 := R4.fz 5; have s0 := S4.c 0 _ rfl; have s1 := S4.c 1 _ rfl; have s2 := S4.c 2 _ rfl; have s3 := S4.c 3 _ rfl; have s4 := S4.c 4 _ rfl; have s5 := S4.c 5 _ rfl; have R4 := Lib.hid R4; have S4 := Lib.hid S4; have hs4 := hn3.below.size; clear hn3 n3)
      refine bodyPost_ret (results_sg rfl _ _ w.heap.size _ _ _ _ _ _ rfl (R4.out.put6 _ _ _ _ _ _)) rfl ⟨_, bs, by rw [HE.out]; rfl, (L4.out.keep (fun k h1 _ => (put6_keep _ w.heap.size _ _ _ _ _ _).block k (by assumption) (fun e => by have := Option.some.inj e; have := Z3.out; omega)) (put6_keep _ w.heap.size _ _ _ _ _ _).size).mono (by have := Z3.out; omega), by rw [HE.out], below_put6 B4.out (Nat.le_refl _) _ _ _ _ _ _, HSP.out⟩
/-- Read, at any bytes -/
theorem segReadN (A : Option Addr) (P : List UInt8) (n c : Nat) (w : World) (hp : RB w A c P) (hn : n = P.length) (hl : P.length ≤ 140737488355328) (s : Seg) (hs : readF P = s) :
    Calls Tryz.prog 24 #[.slice A n c] w fun r w' => ∃ A' c' bs, r = .returned (.tuple #[.agg (segC s.h (.slice A' s.bs.length c') s.used), .int .i64 s.e]) ∧ RdK w w' s (.slice A' s.bs.length c') bs := by
  have key : ∀ {r : Ending} {w' : World} {e : Nat} {v : Value} {bs : List BtV}, s.e = e → r = .returned (.tuple #[.agg (segC s.h v s.used), .int .i64 e]) → RdK w w' s v bs → ∃ A' c' bs, r = .returned (.tuple #[.agg (segC s.h (.slice A' s.bs.length c') s.used), .int .i64 s.e]) ∧ RdK w w' s (.slice A' s.bs.length c') bs := by
    intro r w' e v bs he hr hk
    obtain ⟨A', c', rfl⟩ := hk.bl.form
    have hlen : bs.length = s.bs.length := by rw [← hk.eq]; simp
    rw [hlen] at hr hk
    exact ⟨A', c', bs, by rw [he]; exact hr, hk⟩
  by_cases hk : (nextF P 0).kind = 1
  · by_cases hh : headOk (nextF P 0).payload (nextF P 0).place
    · have he : s.e = 0 := by rw [← hs]; unfold readF; rw [if_pos ⟨hk, hh⟩]
      exact (read_ok A P n c w hp hn hl hk hh s hs).mono fun r w' ⟨v, bs, h1, h2⟩ => key he h1 h2
    · have e : s = noSeg := by rw [← hs]; unfold readF; rw [if_neg (fun h => hh h.2)]
      subst e
      exact (read_no A P n c w hp hn hl hk hh).mono fun r w' ⟨v, bs, h1, h2⟩ => key rfl h1 h2
  · have e : s = noSeg := by rw [← hs]; unfold readF; rw [if_neg (fun h => hk h.1)]
    subst e
    exact (read_end A P n c w hp hn hl hk).mono fun r w' ⟨v, bs, h1, h2⟩ => key rfl h1 h2
end Go.Proofs.YtpmnnnbkbcpgjaaGreatDoor
