/- The walk of notaryref05.DocDecodeBatch. -/
import Derived.Test.YtelecdncdaepnaaDocDecode
import Derived.Test.YtelecdncdaepnaaBatchWalk
import Derived.Test.YtelecdncdaepnaaDocBatch
namespace Go.Proofs.Ytelecdncdaepnaa
open Go.RowKit
open WireMath (numS beN rawS blobS uvarS grpL uvarL wideL)

/-- the three boxes of DocDecodeBatch -/
structure DS (w0 w : World) (g0 g1 r0 r1 r2 : Value) : Prop where
  res : Duo w w0.heap.size (.int .u64 0) (.slice none 0 0)
  bat : Duo w (w0.heap.size + 1) g0 g1
  rd : Trio w (w0.heap.size + 1 + 1) r0 r1 r2
  below : Below w0.heap.size w0 w
theorem Duo.other3 {w : World} {b g : Nat} {x y u v t : Value} (h : Duo w b x y) (hne : b ≠ g) : Duo (((w.setCell ⟨g, 0, none⟩ u).setCell ⟨g, 1, none⟩ v).setCell ⟨g, 2, none⟩ t) b x y := ((h.other hne).other hne).other hne
theorem DS.new {w0 w w' : World} {g0 g1 r0 r1 r2 : Value} (h : DS w0 w g0 g1 r0 r1 r2) (hb : Below w.heap.size w w') : DS w0 w' g0 g1 r0 r1 r2 := ⟨h.res.new hb, h.bat.new hb, h.rd.new hb, below_then h.below hb⟩
theorem DS.putR {w0 w : World} {g0 g1 r0 r1 r2 : Value} (h : DS w0 w g0 g1 r0 r1 r2) (x y z : Value) : DS w0 (((w.setCell ⟨w0.heap.size + 1 + 1, 0, none⟩ x).setCell ⟨w0.heap.size + 1 + 1, 1, none⟩ y).setCell ⟨w0.heap.size + 1 + 1, 2, none⟩ z) g0 g1 x y z :=
  ⟨h.res.other3 (by omega), h.bat.other3 (by omega), h.rd.put x y z, h.below.trans (put3_below (by omega) x y z)⟩
theorem DS.set0 {w0 w : World} {g0 g1 r0 r1 r2 : Value} (h : DS w0 w g0 g1 r0 r1 r2) (u : Value) : DS w0 (w.setCell ⟨w0.heap.size + 1, 0, none⟩ u) u g1 r0 r1 r2 :=
  ⟨h.res.other (by omega), h.bat.set0 u, h.rd.other1 (by omega), h.below.setCell (by show _ ≤ w0.heap.size + 1; omega) _⟩
theorem DS.set1 {w0 w : World} {g0 g1 r0 r1 r2 : Value} (h : DS w0 w g0 g1 r0 r1 r2) (u : Value) : DS w0 (w.setCell ⟨w0.heap.size + 1, 1, none⟩ u) g0 u r0 r1 r2 :=
  ⟨h.res.other (by omega), h.bat.set1 u, h.rd.other1 (by omega), h.below.setCell (by show _ ≤ w0.heap.size + 1; omega) _⟩
theorem DS.far3 {w0 w : World} {g0 g1 r0 r1 r2 x y z : Value} {g : Nat} (h : DS w0 w g0 g1 r0 r1 r2) (hg : w0.heap.size + 1 + 1 < g) : DS w0 (((w.setCell ⟨g, 0, none⟩ x).setCell ⟨g, 1, none⟩ y).setCell ⟨g, 2, none⟩ z) g0 g1 r0 r1 r2 :=
  ⟨h.res.other3 (by omega), h.bat.other3 (by omega), h.rd.other3 (by omega), h.below.trans (put3_below (by omega) x y z)⟩
theorem DS.grown {w0 w w' : World} {g0 g1 r0 r1 r2 : Value} {row : Option Nat} (h : DS w0 w g0 g1 r0 r1 r2) (hg : w.grownBy w' row) (hr : ∀ k, row = some k → w0.heap.size + 1 + 1 < k) : DS w0 w' g0 g1 r0 r1 r2 :=
  ⟨h.res.keep (hg.block _ h.res.lt (fun e => by have := hr _ e.symm; omega)), h.bat.keep (hg.block _ h.bat.lt (fun e => by have := hr _ e.symm; omega)), h.rd.keep (hg.block _ h.rd.lt (fun e => by have := hr _ e.symm; omega)), h.below.grown hg h.below.size (fun k e => by have := hr k e; omega)⟩
theorem DS.start (w : World) (r0 r1 r2 : Value) : DS w (((w.alloc (.cells #[.int .u64 0, .slice none 0 0] 34)).alloc (.cells #[.int .u64 0, .slice none 0 0] 34)).alloc (.cells #[r0, r1, r2] 105)) (.int .u64 0) (.slice none 0 0) r0 r1 r2 := by
  have n : ∀ (w : World) (o : Obj), Below w.heap.size w (w.alloc o) := fun w o => below_alloc1 (Below.refl _ _) (Nat.le_refl _) o
  exact ⟨((Duo.fresh w w.heap.size rfl _ _ _).new (n _ _)).new (n _ _), (Duo.fresh _ (w.heap.size + 1) (asz _ _) _ _ _).new (n _ _), Trio.fresh _ (w.heap.size + 1 + 1) (asz2 _ _ _) _ _ _ _, belowA (belowA (n _ _) _) _⟩
theorem results_ddb {fn : Func} {p q : Tmp} (h : fn.results = #[.cell p 34, .tmp q]) (tmps : Array Value) (w : World) (b : Nat) (x y : Value) (hp : tmps.getD p undef = .pointer (some ⟨b, 0, none⟩)) (ht : Duo w b x y) :
    (results fn tmps).run Try.prog w = .ok (.tuple #[.agg #[x, y], tmps.getD q undef]) w := by
  have hp' : tmps[p]?.getD undef = .pointer (some ⟨b, 0, none⟩) := by simpa using hp
  have hl := run_loadVar_mid (P := Try.prog) w b 0 34 [x, y] _ (fun j v hj => by
    match j, hj with
    | 0, hj => simp at hj; subst hj; simpa using ht.c0
    | 1, hj => simp at hj; subst hj; simpa using ht.c1
    | j + 2, hj => simp at hj) Try.underlying34 rfl (by kernel_rfl)
  simp [results, h, hp', asAddr, hl]
theorem tkUvarN (A : Option Addr) (P : List UInt8) (c at_ e : Nat) (T E : Int) (hT : T = at_) (hE : E = e) (w : World) (hp : RB w A c P) (hl : P.length ≤ 140737488355328) (hat : at_ ≤ P.length) (v a2 e2 : Nat) (hr : uvarS P at_ e = (v, a2, e2)) :
    Calls Try.prog 68 #[.agg #[.slice A P.length c, .int .i64 T, .int .i64 E]] w fun e' w' => e' = .returned (.tuple #[.int .u64 v, .agg #[.slice A P.length c, .int .i64 a2, .int .i64 e2]]) ∧ Below w.heap.size w w' := by
  have := takeUvar_calls A P c at_ e E T hE hT w hp hl hat
  rw [hr] at this
  exact this
theorem uvarS_le (P : List UInt8) (at_ e : Nat) (h : at_ ≤ P.length) : (uvarS P at_ e).2.1 ≤ P.length := by
  unfold WireMath.uvarS
  split
  · exact h
  · exact grpLe P at_ h
theorem uvarS_bad0 (P : List UInt8) (at_ e : Nat) (h : (uvarS P at_ e).2.2 ≠ 0) : (uvarS P at_ e).1 = 0 := by
  have hz := WireMath.grpTo_zero (P.drop at_) 0 0
  replace hz : (grpL (P.drop at_)).2 = 0 → (grpL (P.drop at_)).1 = 0 := hz
  unfold WireMath.uvarS at h ⊢
  split
  · rfl
  · rename_i he
    rw [if_neg he] at h
    simp only at h ⊢
    apply hz
    by_cases h9 : (grpL (P.drop at_)).2 = 0
    · exact h9
    · rw [if_neg h9] at h; exact absurd rfl h
theorem uvarS_badE (P : List UInt8) (at_ e : Nat) (h : e ≠ 0) : uvarS P at_ e = (0, at_, e) := by
  unfold WireMath.uvarS; rw [if_pos h]
set_option maxHeartbeats 400000 in
set_option maxRecDepth 100000 in
theorem docbatch_a (A : Option Addr) (P : List UInt8) (n c : Nat) (w : World) (hp : RB w A c P) (hn : n = P.length) (hl : P.length ≤ 140737488355328) (f a1 e1 m a2 e2 : Nat) (hU1 : uvarS P 0 0 = (f, a1, e1)) (hU2 : uvarS P a1 e1 = (m, a2, e2)) (_hf : f ≤ 18446744073709551615) (hm : 64 < m) (hmm2 : m ≤ 18446744073709551615) (e9 : Nat) (he9 : doneE P a2 (failE e2 2) = e9) (h9 : e9 ≠ 0) :
    Calls Try.prog 29 #[.slice A n c] w fun r w' => r = .returned (.tuple #[.agg #[.int .u64 0, .slice none 0 0], .int .i64 e9]) ∧ Below w.heap.size w w' := by
  subst hn
  have D0 := Lib.hid (DS.start w (.slice A P.length c) (.int .i64 0) (.int .i64 0))
  have hla1 : a1 ≤ P.length := by have := uvarS_le P 0 0 (Nat.zero_le _); rw [hU1] at this; exact this
  have hla2 : a2 ≤ P.length := by have := uvarS_le P a1 e1 hla1; rw [hU2] at this; exact this
  have HU1 := Lib.hid hU1
  have HU2 := Lib.hid hU2
  have c0 := Lib.hid (show (0 : Int) = ((0 : Nat) : Int) from rfl)
  have x0 := D0.out.rd.c0
  have x1 := D0.out.rd.c1
  have x2 := D0.out.rd.c2
  have cK := Lib.hid (show (2 : Int) = ((2 : Nat) : Int) from rfl)
  have HE9 := Lib.hid he9
  have hb9 : ((e9 : Int) != 0) = true := by rw [bne_iff_ne]; omega
  have hb1 : decide ((64 : Int) < (m : Int)) = true := by rw [decide_eq_true_eq]; omega
  clear hU1 hU2 he9 h9 hm
  go_enter Try.func29, Try.ntmps29
  go_wp2_with (first
    | (go_at_call 68; (with_reducible refine (tkUvarN A P c 0 0 0 0 c0.out c0.out _ (hp.new D0.out.below) hl (Nat.zero_le _) f a1 e1 HU1.out).mono ?_); rintro s1 w1 ⟨rfl, hb1⟩; have DB1 := D0.out.new hb1; have DC1 := DB1.set0 (.int .u64 f); have D1 := DC1.putR (.slice A P.length c) (.int .i64 a1) (.int .i64 e1); have v0 := DB1.bat.c0; have q0 := DB1.bat.fz 0; have g0 := DC1.rd.c0; have g1 := DC1.rd.c1; have g2 := DC1.rd.c2; have f0 := DC1.rd.fz 0; have f1 := DC1.rd.fz 1; have f2 := DC1.rd.fz 2; have r0 := D1.rd.c0; have r1 := D1.rd.c1; have r2 := D1.rd.c2; have hz1 := D1.rd.lt)
    | (go_at_call 68; (with_reducible refine (tkUvarN A P c a1 e1 a1 e1 rfl rfl _ (hp.new D1.below) hl hla1 m a2 e2 HU2.out).mono ?_); rintro s2 w2 ⟨rfl, hb2⟩; clear v0 q0 g0 g1 g2 f0 f1 f2 r0 r1 r2; have DB2 := D1.new hb2; have D2 := DB2.putR (.slice A P.length c) (.int .i64 a2) (.int .i64 e2); have g0 := DB2.rd.c0; have g1 := DB2.rd.c1; have g2 := DB2.rd.c2; have f0 := DB2.rd.fz 0; have f1 := DB2.rd.fz 1; have f2 := DB2.rd.fz 2; have r0 := D2.rd.c0; have r1 := D2.rd.c1; have r2 := D2.rd.c2; have m0 := D2.bat.c0; have m1 := D2.bat.c1; have hz2 := D2.rd.lt; have z2 := trivial)
    | (go_at_call 70; go_loud (with_reducible refine (dfits_calls f m _ rfl hf hmm _ _ HFB.out).mono ?_); rintro r5 w5 ⟨rfl, rfl⟩)
    | (go_at_call 69; go_loud (with_reducible refine (failed_calls A P.length c a2 2 e2 2 cK.out e2 rfl _).mono ?_); rintro s3 w3 ⟨rfl, hb3⟩; have DB3 := D2.new hb3; have D3 := DB3.putR (.slice A P.length c) (.int .i64 a2) (.int .i64 (failE e2 2)); have g0 := DB3.rd.c0; have g1 := DB3.rd.c1; have g2 := DB3.rd.c2; have f0 := DB3.rd.fz 0; have f1 := DB3.rd.fz 1; have f2 := DB3.rd.fz 2; have r0 := D3.rd.c0; have r1 := D3.rd.c1; have r2 := D3.rd.c2; have hz3 := D3.rd.lt))
  go_loopw [7, 8] (fun iv _ wr => iv = .int .i64 0 ∧ DS w wr (.int .u64 f) (.slice none 0 0) (.slice A P.length c) (.int .i64 a2) (.int .i64 (failE e2 2))) (fun _ _ _ => 0)
  case atStart => exact ⟨rfl, D3⟩
  case round =>
    obtain ⟨rfl, D9⟩ := hrel
    have r0 := D9.rd.c0
    have r1 := D9.rd.c1
    have r2 := D9.rd.c2
    go_wp2_with (go_at_call 72; go_loud (with_reducible refine (rdoneN A P _ c a2 (failE e2 2) _ rfl hla2 e9 HE9.out).mono ?_); rintro s4 w4 ⟨rfl, hb4⟩; have D4 := D9.new hb4; have x0 := D4.res.c0; have x1 := D4.res.c1; have y0 := D4.res.fz 0; have y1 := D4.res.fz 1)
    all_goals exact bodyPost_ret (results_ddb rfl _ _ w.heap.size _ _ rfl ((D4.res.set0 (.int .u64 0)).set1 (.slice none 0 0))) rfl ⟨rfl, (D4.below.setCell (Nat.le_refl _) _).setCell (Nat.le_refl _) _⟩
set_option maxHeartbeats 400000 in
set_option maxRecDepth 100000 in
theorem docbatch_b (A : Option Addr) (P : List UInt8) (n c : Nat) (w : World) (hp : RB w A c P) (hn : n = P.length) (hl : P.length ≤ 140737488355328) (f a1 e1 m a2 e2 : Nat) (hU1 : uvarS P 0 0 = (f, a1, e1)) (hU2 : uvarS P a1 e1 = (m, a2, e2)) (_hf : f ≤ 18446744073709551615) (hm : m = 0) (e9 : Nat) (he9 : doneE P a2 (failE e2 3) = e9) (h9 : e9 ≠ 0) :
    Calls Try.prog 29 #[.slice A n c] w fun r w' => r = .returned (.tuple #[.agg #[.int .u64 0, .slice none 0 0], .int .i64 e9]) ∧ Below w.heap.size w w' := by
  subst hn
  have D0 := Lib.hid (DS.start w (.slice A P.length c) (.int .i64 0) (.int .i64 0))
  have hla1 : a1 ≤ P.length := by have := uvarS_le P 0 0 (Nat.zero_le _); rw [hU1] at this; exact this
  have hla2 : a2 ≤ P.length := by have := uvarS_le P a1 e1 hla1; rw [hU2] at this; exact this
  have HU1 := Lib.hid hU1
  have HU2 := Lib.hid hU2
  have c0 := Lib.hid (show (0 : Int) = ((0 : Nat) : Int) from rfl)
  have x0 := D0.out.rd.c0
  have x1 := D0.out.rd.c1
  have x2 := D0.out.rd.c2
  have cK := Lib.hid (show (3 : Int) = ((3 : Nat) : Int) from rfl)
  have HE9 := Lib.hid he9
  have hb9 : ((e9 : Int) != 0) = true := by rw [bne_iff_ne]; omega
  have hb1 : decide ((64 : Int) < (m : Int)) = false := by rw [decide_eq_false_iff_not]; omega
  have hmm : m ≤ 9223372036854775807 := by omega
  have hb2 : ((m : Int) == 0) = true := by rw [beq_iff_eq]; omega
  have hb3 : decide ((0 : Int) < (m : Int)) = false := by rw [decide_eq_false_iff_not]; omega
  clear hU1 hU2 he9 h9 hm
  go_enter Try.func29, Try.ntmps29
  go_wp2_with (first
    | (go_at_call 68; (with_reducible refine (tkUvarN A P c 0 0 0 0 c0.out c0.out _ (hp.new D0.out.below) hl (Nat.zero_le _) f a1 e1 HU1.out).mono ?_); rintro s1 w1 ⟨rfl, hb1⟩; have DB1 := D0.out.new hb1; have DC1 := DB1.set0 (.int .u64 f); have D1 := DC1.putR (.slice A P.length c) (.int .i64 a1) (.int .i64 e1); have v0 := DB1.bat.c0; have q0 := DB1.bat.fz 0; have g0 := DC1.rd.c0; have g1 := DC1.rd.c1; have g2 := DC1.rd.c2; have f0 := DC1.rd.fz 0; have f1 := DC1.rd.fz 1; have f2 := DC1.rd.fz 2; have r0 := D1.rd.c0; have r1 := D1.rd.c1; have r2 := D1.rd.c2; have hz1 := D1.rd.lt)
    | (go_at_call 68; (with_reducible refine (tkUvarN A P c a1 e1 a1 e1 rfl rfl _ (hp.new D1.below) hl hla1 m a2 e2 HU2.out).mono ?_); rintro s2 w2 ⟨rfl, hb2⟩; clear v0 q0 g0 g1 g2 f0 f1 f2 r0 r1 r2; have DB2 := D1.new hb2; have D2 := DB2.putR (.slice A P.length c) (.int .i64 a2) (.int .i64 e2); have g0 := DB2.rd.c0; have g1 := DB2.rd.c1; have g2 := DB2.rd.c2; have f0 := DB2.rd.fz 0; have f1 := DB2.rd.fz 1; have f2 := DB2.rd.fz 2; have r0 := D2.rd.c0; have r1 := D2.rd.c1; have r2 := D2.rd.c2; have m0 := D2.bat.c0; have m1 := D2.bat.c1; have hz2 := D2.rd.lt; have z2 := trivial)
    | (go_at_call 70; go_loud (with_reducible refine (dfits_calls f m _ rfl hf hmm _ _ HFB.out).mono ?_); rintro r5 w5 ⟨rfl, rfl⟩)
    | (go_at_call 69; go_loud (with_reducible refine (failed_calls A P.length c a2 3 e2 3 cK.out e2 rfl _).mono ?_); rintro s3 w3 ⟨rfl, hb3⟩; have DB3 := D2.new hb3; have D3 := DB3.putR (.slice A P.length c) (.int .i64 a2) (.int .i64 (failE e2 3)); have g0 := DB3.rd.c0; have g1 := DB3.rd.c1; have g2 := DB3.rd.c2; have f0 := DB3.rd.fz 0; have f1 := DB3.rd.fz 1; have f2 := DB3.rd.fz 2; have r0 := D3.rd.c0; have r1 := D3.rd.c1; have r2 := D3.rd.c2; have hz3 := D3.rd.lt))
  go_loopw [7, 8] (fun iv _ wr => iv = .int .i64 0 ∧ DS w wr (.int .u64 f) (.slice none 0 0) (.slice A P.length c) (.int .i64 a2) (.int .i64 (failE e2 3))) (fun _ _ _ => 0)
  case atStart => exact ⟨rfl, D3⟩
  case round =>
    obtain ⟨rfl, D9⟩ := hrel
    have r0 := D9.rd.c0
    have r1 := D9.rd.c1
    have r2 := D9.rd.c2
    go_wp2_with (go_at_call 72; go_loud (with_reducible refine (rdoneN A P _ c a2 (failE e2 3) _ rfl hla2 e9 HE9.out).mono ?_); rintro s4 w4 ⟨rfl, hb4⟩; have D4 := D9.new hb4; have x0 := D4.res.c0; have x1 := D4.res.c1; have y0 := D4.res.fz 0; have y1 := D4.res.fz 1)
    all_goals exact bodyPost_ret (results_ddb rfl _ _ w.heap.size _ _ rfl ((D4.res.set0 (.int .u64 0)).set1 (.slice none 0 0))) rfl ⟨rfl, (D4.below.setCell (Nat.le_refl _) _).setCell (Nat.le_refl _) _⟩
set_option maxHeartbeats 400000 in
set_option maxRecDepth 100000 in
theorem docbatch_c (A : Option Addr) (P : List UInt8) (n c : Nat) (w : World) (hp : RB w A c P) (hn : n = P.length) (hl : P.length ≤ 140737488355328) (f a1 e1 m a2 e2 : Nat) (hU1 : uvarS P 0 0 = (f, a1, e1)) (hU2 : uvarS P a1 e1 = (m, a2, e2)) (hf : f ≤ 18446744073709551615) (hm : m ≤ 64) (_hm0 : m ≠ 0) (hm1 : 18446744073709551616 ≤ f + m) (e9 : Nat) (he9 : doneE P a2 (failE e2 3) = e9) (h9 : e9 ≠ 0) :
    Calls Try.prog 29 #[.slice A n c] w fun r w' => r = .returned (.tuple #[.agg #[.int .u64 0, .slice none 0 0], .int .i64 e9]) ∧ Below w.heap.size w w' := by
  subst hn
  have D0 := Lib.hid (DS.start w (.slice A P.length c) (.int .i64 0) (.int .i64 0))
  have hla1 : a1 ≤ P.length := by have := uvarS_le P 0 0 (Nat.zero_le _); rw [hU1] at this; exact this
  have hla2 : a2 ≤ P.length := by have := uvarS_le P a1 e1 hla1; rw [hU2] at this; exact this
  have HU1 := Lib.hid hU1
  have HU2 := Lib.hid hU2
  have c0 := Lib.hid (show (0 : Int) = ((0 : Nat) : Int) from rfl)
  have x0 := D0.out.rd.c0
  have x1 := D0.out.rd.c1
  have x2 := D0.out.rd.c2
  have cK := Lib.hid (show (3 : Int) = ((3 : Nat) : Int) from rfl)
  have HE9 := Lib.hid he9
  have hb9 : ((e9 : Int) != 0) = true := by rw [bne_iff_ne]; omega
  have hb1 : decide ((64 : Int) < (m : Int)) = false := by rw [decide_eq_false_iff_not]; omega
  have hmm : m ≤ 9223372036854775807 := by omega
  have hb2 : ((m : Int) == 0) = false := by rw [beq_eq_false_iff_ne]; omega
  have hb3 : decide ((0 : Int) < (m : Int)) = true := by rw [decide_eq_true_eq]; omega
  have hb4 : (((failE e2 3 : Nat) : Int) == 0) = false := by rw [beq_eq_false_iff_ne]; unfold failE; split <;> omega
  have HFB := Lib.hid (show decide (f + m < 18446744073709551616) = false by rw [decide_eq_false_iff_not]; omega)
  clear hU1 hU2 he9 h9 hm1
  go_enter Try.func29, Try.ntmps29
  go_wp2_with (first
    | (go_at_call 68; (with_reducible refine (tkUvarN A P c 0 0 0 0 c0.out c0.out _ (hp.new D0.out.below) hl (Nat.zero_le _) f a1 e1 HU1.out).mono ?_); rintro s1 w1 ⟨rfl, hb1⟩; have DB1 := D0.out.new hb1; have DC1 := DB1.set0 (.int .u64 f); have D1 := DC1.putR (.slice A P.length c) (.int .i64 a1) (.int .i64 e1); have v0 := DB1.bat.c0; have q0 := DB1.bat.fz 0; have g0 := DC1.rd.c0; have g1 := DC1.rd.c1; have g2 := DC1.rd.c2; have f0 := DC1.rd.fz 0; have f1 := DC1.rd.fz 1; have f2 := DC1.rd.fz 2; have r0 := D1.rd.c0; have r1 := D1.rd.c1; have r2 := D1.rd.c2; have hz1 := D1.rd.lt)
    | (go_at_call 68; (with_reducible refine (tkUvarN A P c a1 e1 a1 e1 rfl rfl _ (hp.new D1.below) hl hla1 m a2 e2 HU2.out).mono ?_); rintro s2 w2 ⟨rfl, hb2⟩; clear v0 q0 g0 g1 g2 f0 f1 f2 r0 r1 r2; have DB2 := D1.new hb2; have D2 := DB2.putR (.slice A P.length c) (.int .i64 a2) (.int .i64 e2); have g0 := DB2.rd.c0; have g1 := DB2.rd.c1; have g2 := DB2.rd.c2; have f0 := DB2.rd.fz 0; have f1 := DB2.rd.fz 1; have f2 := DB2.rd.fz 2; have r0 := D2.rd.c0; have r1 := D2.rd.c1; have r2 := D2.rd.c2; have m0 := D2.bat.c0; have m1 := D2.bat.c1; have hz2 := D2.rd.lt; have z2 := trivial)
    | (go_at_call 70; go_loud (with_reducible refine (dfits_calls f m _ rfl hf hmm _ _ HFB.out).mono ?_); rintro r5 w5 ⟨rfl, rfl⟩)
    | (go_at_call 69; go_loud (with_reducible refine (failed_calls A P.length c a2 3 e2 3 cK.out e2 rfl _).mono ?_); rintro s3 w3 ⟨rfl, hb3⟩; have DB3 := D2.new hb3; have D3 := DB3.putR (.slice A P.length c) (.int .i64 a2) (.int .i64 (failE e2 3)); have g0 := DB3.rd.c0; have g1 := DB3.rd.c1; have g2 := DB3.rd.c2; have f0 := DB3.rd.fz 0; have f1 := DB3.rd.fz 1; have f2 := DB3.rd.fz 2; have r0 := D3.rd.c0; have r1 := D3.rd.c1; have r2 := D3.rd.c2; have hz3 := D3.rd.lt))
  go_loopw [7, 8] (fun iv _ wr => iv = .int .i64 0 ∧ DS w wr (.int .u64 f) (.slice none 0 0) (.slice A P.length c) (.int .i64 a2) (.int .i64 (failE e2 3))) (fun _ _ _ => 0)
  case atStart => exact ⟨rfl, D3⟩
  case round =>
    obtain ⟨rfl, D9⟩ := hrel
    have r0 := D9.rd.c0
    have r1 := D9.rd.c1
    have r2 := D9.rd.c2
    go_wp2_with (go_at_call 72; go_loud (with_reducible refine (rdoneN A P _ c a2 (failE e2 3) _ rfl hla2 e9 HE9.out).mono ?_); rintro s4 w4 ⟨rfl, hb4⟩; have D4 := D9.new hb4; have x0 := D4.res.c0; have x1 := D4.res.c1; have y0 := D4.res.fz 0; have y1 := D4.res.fz 1)
    all_goals exact bodyPost_ret (results_ddb rfl _ _ w.heap.size _ _ rfl ((D4.res.set0 (.int .u64 0)).set1 (.slice none 0 0))) rfl ⟨rfl, (D4.below.setCell (Nat.le_refl _) _).setCell (Nat.le_refl _) _⟩
end Go.Proofs.Ytelecdncdaepnaa
