import Derived.Test.YtpmnnnbkbcpgjaaGreatDoorQBb
import Derived.Deep.RegionHeld3
import Derived.WalkSmall
import Derived.Recover
import Derived.Maps.AppendAt
import Derived.Lib.SmallJoins
import Derived.Deep.RegionLaw
import Derived.Deep.DrawnRows
/- Entries: what they are laid as, what is asked of them; the walks of Check, lay, Encode and of the document's. -/
namespace Go.Proofs.YtpmnnnbkbcpgjaaGreatDoor
open Go.RowKit
open WireMath (numS beN rawS blobS uvarS grpL uvarL wideL)

/-- an entry: its kind, its key, its value -/
structure En where
  k : Nat
  K : List UInt8
  V : List UInt8
def chkF (e : En) : Nat := if 64 < e.K.length ∨ 256 < e.V.length then 2 else if (e.k ≠ 1 ∧ e.k ≠ 2) ∨ (e.k = 2 ∧ 0 < e.V.length) then 3 else 0
def encL (e : En) : List UInt8 := [UInt8.ofNat e.k] ++ ((uvarL e.K.length ++ e.K) ++ (if e.k = 1 then uvarL e.V.length ++ e.V else []))
theorem encL_length (e : En) : (encL e).length ≤ 21 + e.K.length + e.V.length := by
  have h1 := WireMath.uvarL_length e.K.length
  have h2 := WireMath.uvarL_length e.V.length
  unfold encL
  split <;> simp only [List.length_append, List.length_cons, List.length_nil] <;> omega
/-- where an entry's lists stand -/
structure EnA where
  KA : Option Addr
  kc : Nat
  VA : Option Addr
  vc : Nat
def enVal (e : En) (a : EnA) : Value := .agg #[.int .u8 e.k, .slice a.KA e.K.length a.kc, .slice a.VA e.V.length a.vc]
structure EnOk (w : World) (e : En) (a : EnA) : Prop where
  k : e.k ≤ 255
  K : RB w a.KA a.kc e.K
  V : RB w a.VA a.vc e.V
theorem EnOk.new {w w' : World} {e : En} {a : EnA} (h : EnOk w e a) (hb : Below w.heap.size w w') : EnOk w' e a := ⟨h.k, h.K.new hb, h.V.new hb⟩
theorem EnOk.step {w w' : World} {F F' : Nat → Prop} {e : En} {a : EnA} (h : EnOk w e a) (hs : Step w w' F F') (h1 : Free F a.KA e.K) (h2 : Free F a.VA e.V) : EnOk w' e a := ⟨h.k, h.K.step hs h1, h.V.step hs h2⟩
theorem Trio.stepE {w w' : World} {F F' : Nat → Prop} {b : Nat} {x y z : Value} (h : Trio w b x y z) (hs : Step w w' F F') (hf : ¬ F b) : Trio w' b x y z := h.keep (hs.block b h.lt hf)
theorem results_en {fn : Func} {p : Tmp} (h : fn.results = #[.cell p 72]) (tmps : Array Value) (w : World) (b : Nat) (x y z : Value) (hp : tmps.getD p undef = .pointer (some ⟨b, 0, none⟩)) (h0 : w.cell? ⟨b, 0, none⟩ = some x) (h1 : w.cell? ⟨b, 1, none⟩ = some y) (h2 : w.cell? ⟨b, 2, none⟩ = some z) :
    (results fn tmps).run Tryz.prog w = .ok (.agg #[x, y, z]) w := by
  have hp' : tmps[p]?.getD undef = .pointer (some ⟨b, 0, none⟩) := by simpa using hp
  have hl := run_loadVar_mid (P := Tryz.prog) w b 0 72 [x, y, z] _ (fun j v hj => by
    match j, hj with
    | 0, hj => simp at hj; subst hj; simpa using h0
    | 1, hj => simp at hj; subst hj; simpa using h1
    | 2, hj => simp at hj; subst hj; simpa using h2
    | j + 3, hj => simp at hj) Tryz.underlying72 rfl (by kernel_rfl)
  simp [results, h, hp', asAddr, hl]

set_option maxRecDepth 100000 in
theorem check_calls (e : En) (KA VA : Option Addr) (n m kc vc : Nat) (w : World) (hn : n = e.K.length) (hm : m = e.V.length) :
    Calls Tryz.prog 86 #[.agg #[.int .u8 e.k, .slice KA n kc, .slice VA m vc]] w fun r w' => r = .returned (.int .i64 (chkF e)) ∧ Below w.heap.size w w' := by
  have HC : Hid (chkF e = if 64 < n ∨ 256 < m then 2 else if (e.k ≠ 1 ∧ e.k ≠ 2) ∨ (e.k = 2 ∧ 0 < m) then 3 else 0) := Lib.hid (by rw [hn, hm]; rfl)
  clear hn hm
  generalize e.k = k at *
  go_enter Tryz.func86, Tryz.ntmps86
  go_wp2
  all_goals
    go_ret
    refine ⟨ret_int ?_, belowA (Below.refl _ _) _⟩
    rw [HC.out]
    repeat' split
    all_goals first | rfl | omega
set_option maxRecDepth 100000 in
theorem docCheck_calls (e : En) (KA VA : Option Addr) (n m kc vc : Nat) (w : World) (hn : n = e.K.length) (hm : m = e.V.length) :
    Calls Tryz.prog 138 #[.agg #[.int .u8 e.k, .slice KA n kc, .slice VA m vc]] w fun r w' => r = .returned (.int .i64 (chkF e)) ∧ Below w.heap.size w w' := by
  have HC : Hid (chkF e = if 64 < n ∨ 256 < m then 2 else if (e.k ≠ 1 ∧ e.k ≠ 2) ∨ (e.k = 2 ∧ 0 < m) then 3 else 0) := Lib.hid (by rw [hn, hm]; rfl)
  clear hn hm
  generalize e.k = k at *
  go_enter Tryz.func138, Tryz.ntmps138
  go_wp2
  all_goals
    go_ret
    refine ⟨ret_int ?_, belowA (Below.refl _ _) _⟩
    rw [HC.out]
    repeat' split
    all_goals first | rfl | omega
set_option maxRecDepth 100000 in
theorem elay_calls {w : World} {F : Nat → Prop} {b : Nat} {p : List UInt8} (h : WrF w F b p) (e : En) (a : EnA) (n m : Nat) (hn : n = e.K.length) (hm : m = e.V.length) (hok : EnOk w e a) (hfK : Free F a.KA e.K) (hfV : Free F a.VA e.V) (q : List UInt8) (hq : p ++ encL e = q) (hl : p.length + e.K.length + e.V.length + 40 ≤ 140737488355328) :
    Calls Tryz.prog 88 #[.pointer (some ⟨b, 0, none⟩), .agg #[.int .u8 e.k, .slice a.KA n a.kc, .slice a.VA m a.vc]] w fun r w' => ∃ F', r = .returned (.tuple #[]) ∧ WrF w' F' b q ∧ Step w w' F F' := by
  subst hn; subst hm
  have HB := Lib.hid (below_alloc1 (Below.refl w.heap.size w) (Nat.le_refl _) (.cells #[.int .u8 e.k, .slice a.KA e.K.length a.kc, .slice a.VA e.V.length a.vc] 72))
  have HW := Lib.hid (h.new HB.out)
  have HO := Lib.hid (hok.new HB.out)
  have HT := Lib.hid (Trio.fresh w w.heap.size rfl (.int .u8 e.k) (.slice a.KA e.K.length a.kc) (.slice a.VA e.V.length a.vc) 72)
  have HNF : Hid (¬ F w.heap.size) := Lib.hid (fun e => by have := h.lt _ e; omega)
  have hk := hok.k
  have hul := WireMath.uvarL_length e.K.length
  have HFK := Lib.hid hfK
  have HFV := Lib.hid hfV
  clear hfK hfV
  by_cases h1 : e.k = 1
  · have HQ := Lib.hid (show ((p ++ [UInt8.ofNat e.k]) ++ (uvarL e.K.length ++ e.K)) ++ (uvarL e.V.length ++ e.V) = q by rw [← hq]; unfold encL; rw [if_pos h1]; simp)
    have hb : ((e.k : Int) == 1) = true := by rw [beq_iff_eq]; omega
    clear h1 hq
    go_enter Tryz.func88, Tryz.ntmps88
    go_wp2_with (first
      | (go_at_call 47; go_loud (with_reducible refine (u8F HW.out (p ++ [UInt8.ofNat e.k]) e.k _ rfl rfl (by omega) (by omega)).mono ?_); rintro e1 w1 ⟨F1, rfl, hw1, hs1⟩; have T1 := HT.out.stepE hs1 HNF.out; have d0 := T1.c0; have d1 := T1.c1; have d2 := T1.c2; have O1 := Lib.hid (HO.out.step hs1 HFK.out HFV.out); have fK1 := Lib.hid (HFK.out.step HO.out.K hs1); have fV1 := Lib.hid (HFV.out.step HO.out.V hs1))
      | (go_at_call 137; (with_reducible refine (blobF hw1 a.KA e.K ((p ++ [UInt8.ofNat e.k]) ++ (uvarL e.K.length ++ e.K)) e.K.length a.kc rfl O1.out.K fK1.out rfl (by simp; omega)).mono ?_); rintro e2 w2 ⟨F2, rfl, hw2, hs2⟩; have T2 := HT.out.stepE (hs1.trans hs2) HNF.out; have d0 := T2.c0; have d1 := T2.c1; have d2 := T2.c2; have O2 := Lib.hid (O1.out.step hs2 fK1.out fV1.out); have fV2 := Lib.hid (fV1.out.step O1.out.V hs2); clear hw1)
      | (go_at_call 137; go_loud (with_reducible refine (blobF hw2 a.VA e.V q e.V.length a.vc HQ.out O2.out.V fV2.out rfl (by simp; omega)).mono ?_); rintro e3 w3 ⟨F3, rfl, hw3, hs3⟩))
    go_end0
    exact ⟨F3, rfl, hw3, Step.ahead HB.out ((hs1.trans hs2).trans hs3)⟩
  · have HQ := Lib.hid (show (p ++ [UInt8.ofNat e.k]) ++ (uvarL e.K.length ++ e.K) = q by rw [← hq]; unfold encL; rw [if_neg h1]; simp)
    have hb : ((e.k : Int) == 1) = false := by rw [beq_eq_false_iff_ne]; omega
    clear h1 hq
    go_enter Tryz.func88, Tryz.ntmps88
    go_wp2_with (first
      | (go_at_call 47; go_loud (with_reducible refine (u8F HW.out (p ++ [UInt8.ofNat e.k]) e.k _ rfl rfl (by omega) (by omega)).mono ?_); rintro e1 w1 ⟨F1, rfl, hw1, hs1⟩; have T1 := HT.out.stepE hs1 HNF.out; have d0 := T1.c0; have d1 := T1.c1; have d2 := T1.c2; have O1 := Lib.hid (HO.out.step hs1 HFK.out HFV.out); have fK1 := Lib.hid (HFK.out.step HO.out.K hs1))
      | (go_at_call 137; go_loud (with_reducible refine (blobF hw1 a.KA e.K q e.K.length a.kc HQ.out O1.out.K fK1.out rfl (by simp; omega)).mono ?_); rintro e2 w2 ⟨F2, rfl, hw2, hs2⟩; have T2 := HT.out.stepE (hs1.trans hs2) HNF.out; have d0 := T2.c0; have d1 := T2.c1; have d2 := T2.c2))
    go_end0
    exact ⟨F2, rfl, hw2, Step.ahead HB.out (hs1.trans hs2)⟩
end Go.Proofs.YtpmnnnbkbcpgjaaGreatDoor

/- The walks of layer 5: Encode, and the document's bytes of an entry. -/
namespace Go.Proofs.YtpmnnnbkbcpgjaaGreatDoor
open Go.RowKit
open WireMath (numS beN rawS blobS uvarS grpL uvarL wideL)

theorem checkN (e : En) (KA VA : Option Addr) (n m kc vc : Nat) (w : World) (hn : n = e.K.length) (hm : m = e.V.length) (C : Int) (hC : (chkF e : Int) = C) :
    Calls Tryz.prog 86 #[.agg #[.int .u8 e.k, .slice KA n kc, .slice VA m vc]] w fun r w' => r = .returned (.int .i64 C) ∧ Below w.heap.size w w' := by
  subst hC; exact check_calls e KA VA n m kc vc w hn hm
theorem docCheckN (e : En) (KA VA : Option Addr) (n m kc vc : Nat) (w : World) (hn : n = e.K.length) (hm : m = e.V.length) (C : Int) (hC : (chkF e : Int) = C) :
    Calls Tryz.prog 138 #[.agg #[.int .u8 e.k, .slice KA n kc, .slice VA m vc]] w fun r w' => r = .returned (.int .i64 C) ∧ Below w.heap.size w w' := by
  subst hC; exact docCheck_calls e KA VA n m kc vc w hn hm
def encE (e : En) : List UInt8 × Nat := if chkF e = 0 then (encL e, 0) else ([], chkF e)
theorem chk_small (e : En) (h : chkF e = 0) : e.K.length ≤ 64 ∧ e.V.length ≤ 256 ∧ (e.k = 1 ∨ e.k = 2) ∧ (e.k = 2 → e.V = []) := by
  unfold chkF at h
  split at h
  · omega
  · split at h
    · omega
    · rename_i h1 h2
      refine ⟨by omega, by omega, by omega, fun h3 => List.eq_nil_of_length_eq_zero (by omega)⟩
theorem refblobN (A : Option Addr) (q r : List UInt8) (n c N : Nat) (w : World) (hp : RB w A c q) (hn : n = q.length) (hl : q.length ≤ 140737488355328) (hr : uvarL q.length ++ q = r) (hN : N = r.length) :
    Calls Tryz.prog 139 #[.slice A n c] w fun e w' => ∃ A' c', e = .returned (.slice A' N c') ∧ NewB w w' (.slice A' N c') r := by
  subst hr; subst hN
  have := refblob_calls A q n c w hp hn hl
  rwa [List.length_append]
theorem joinE (A B : Option Addr) (p q r : List UInt8) (n m k c d : Nat) (w : World) (hp : RB w A c p) (hq : RB w B d q) (hn : n = p.length) (hm : m = q.length) (hk : k = r.length) (hr : p ++ q = r) (hl : p.length + q.length ≤ 281474976710656) :
    Calls Tryz.prog 30 #[.slice A n c, .slice B m d] w fun e w' => ∃ A' c', e = .returned (.slice A' k c') ∧ NewB w w' (.slice A' k c') r := by
  subst hn; subst hm; subst hr; subst hk
  have := join_bytes_calls A B p q c d w hp hq hl
  exact this
theorem RB.oneAt (w : World) (e : TypeId) (b : UInt8) (v : Int) (hv : v = uB b) (k : Nat) (hk : w.heap.size = k) : RB (w.alloc (.cells #[.int .u8 v] e)) (some ⟨k, 0, none⟩) 1 [b] := by
  subst hk; subst hv; exact RB.one w e b
theorem RB.drewE {w : World} {A : Option Addr} {c : Nat} {p : List UInt8} (h : RB w A c p) : RB w.drew A c p := h.new (below_drew _ _)
set_option maxHeartbeats 400000 in
set_option maxRecDepth 100000 in
theorem bytesE_calls (e : En) (a : EnA) (n m : Nat) (hn : n = e.K.length) (hm : m = e.V.length) (w : World) (hok : EnOk w e a) (hs : e.K.length + e.V.length ≤ 1048576) (N : Nat) (hN : N = (encL e).length) :
    Calls Tryz.prog 92 #[.agg #[.int .u8 e.k, .slice a.KA n a.kc, .slice a.VA m a.vc]] w fun r w' => ∃ A' c', r = .returned (.slice A' N c') ∧ NewB w w' (.slice A' N c') (encL e) := by
  subst hn; subst hm; subst hN
  have HB := Lib.hid (below_alloc1 (Below.refl w.heap.size w) (Nat.le_refl _) (.cells #[.int .u8 e.k, .slice a.KA e.K.length a.kc, .slice a.VA e.V.length a.vc] 72))
  have HT := Lib.hid (Trio.fresh w w.heap.size rfl (.int .u8 e.k) (.slice a.KA e.K.length a.kc) (.slice a.VA e.V.length a.vc) 72)
  have hku := Lib.hid (show (e.k : Int) = uB (UInt8.ofNat e.k) by rw [uB_ofNat]; have := hok.k; omega)
  have hul := WireMath.uvarL_length e.K.length
  have huv := WireMath.uvarL_length e.V.length
  have HK := Lib.hid (hok.K.new HB.out)
  have HV := Lib.hid (hok.V.new HB.out)
  obtain ⟨bk, hbk⟩ : ∃ b, b = uvarL e.K.length ++ e.K := ⟨_, rfl⟩
  obtain ⟨bv, hbv⟩ : ∃ b, b = uvarL e.V.length ++ e.V := ⟨_, rfl⟩
  have hbkl : bk.length ≤ 1048586 := by rw [hbk, List.length_append]; omega
  have hbvl : bv.length ≤ 1048586 := by rw [hbv, List.length_append]; omega
  have HBK := Lib.hid hbk.symm
  have HBV := Lib.hid hbv.symm
  have hkl : e.K.length ≤ 140737488355328 := by omega
  have hvl : e.V.length ≤ 140737488355328 := by omega
  have x0 := HT.out.c0
  have x1 := HT.out.c1
  have x2 := HT.out.c2
  obtain ⟨hd, hhd⟩ : ∃ b, b = [UInt8.ofNat e.k] ++ bk := ⟨_, rfl⟩
  have hhl : hd.length ≤ 1048587 := by rw [hhd, List.length_append]; simp; omega
  have HHD := Lib.hid hhd.symm
  clear hbk hbv hul huv hhd
  go_enter Tryz.func92, Tryz.ntmps92
  go_wp2
  go_region_held3 (fun w' => w'.cell? ⟨w.heap.size, 0, none⟩ = some (.int .u8 e.k) ∧ w'.cell? ⟨w.heap.size, 1, none⟩ = some (.slice a.KA e.K.length a.kc)) (go_keep) (first
    | (go_at_call 139; (with_reducible refine (refblobN a.KA e.K bk _ a.kc bk.length _ (HK.out.drewE) rfl hkl HBK.out rfl).mono ?_); rintro e1 w1 ⟨A1, c1, rfl, hn1⟩; have T1 := HT.out.drew.new hn1.below; have y0 := T1.c0; have y1 := T1.c1; have hz1 := T1.lt; have B1 := Lib.hid (below_then HB.out.drew hn1.below))
    | (go_at_call 139; (with_reducible refine (refblobN a.KA e.K bk _ a.kc bk.length _ ((HK.out.alloc _).drewE) rfl hkl HBK.out rfl).mono ?_); rintro e1 w1 ⟨A1, c1, rfl, hn1⟩; have T1 := (((HT.out.new (below_alloc1 (Below.refl _ _) (Nat.le_refl _) (.cells #[.int .u8 e.k] 5))).drew).new hn1.below); have y0 := T1.c0; have y1 := T1.c1; have B1 := Lib.hid (below_then (belowA HB.out (.cells #[.int .u8 e.k] 5)).drew hn1.below))
    | (go_at_call 30; (with_reducible refine (joinE _ A1 [UInt8.ofNat e.k] bk hd 1 bk.length hd.length 1 c1 _ (RB.oneAt w1 _ (UInt8.ofNat e.k) _ hku.out w1.heap.size rfl) (hn1.own.rb.alloc _) rfl rfl rfl HHD.out (by simp; omega)).mono ?_); rintro e2 w2 ⟨A2, c2, rfl, hn2⟩; have T2 := (T1.new (below_alloc1 (Below.refl _ _) (Nat.le_refl _) (.cells #[.int .u8 e.k] 5))).new hn2.below; have y0 := T2.c0; have y1 := T2.c1; have B2 := Lib.hid (below_then (belowA B1.out (.cells #[.int .u8 e.k] 5)) hn2.below); have hn2o := Lib.hid (hn2.own.mono (belowA B1.out (.cells #[.int .u8 e.k] 5)).size); have hn2r := Lib.hid hn2.own.rb)
    | (go_at_call 30; go_loud (with_reducible refine (joinE _ A1 [UInt8.ofNat e.k] bk hd 1 bk.length hd.length 1 c1 _ (((RB.oneAt _ _ (UInt8.ofNat e.k) _ hku.out _ (asz _ _)).drewE).new hn1.below) hn1.own.rb rfl rfl rfl HHD.out (by simp; omega)).mono ?_); rintro e2 w2 ⟨A2, c2, rfl, hn2⟩; have T2 := T1.new hn2.below; have y0 := T2.c0; have y1 := T2.c1; have B2 := Lib.hid (below_then B1.out hn2.below); have hn2o := Lib.hid (hn2.own.mono B1.out.size); have hn2r := Lib.hid hn2.own.rb))
  all_goals clear hn2
  all_goals
    by_cases h1 : e.k = 1
    · have hb : ((e.k : Int) == 1) = true := by rw [beq_iff_eq]; omega
      have HE := Lib.hid (show hd ++ bv = encL e by unfold encL; rw [if_pos h1, ← HHD.out, ← HBK.out, ← HBV.out]; simp)
      have z0 := T2.c0
      have z2 := T2.c2
      clear h1
      go_wp2_with (first
        | (go_at_call 139; go_loud (with_reducible refine (refblobN a.VA e.V bv _ a.vc bv.length _ (hok.V.new B2.out) rfl hvl HBV.out rfl).mono ?_); rintro e3 w3 ⟨A3, c3, rfl, hn3⟩)
        | (go_at_call 30; go_loud (with_reducible refine (joinE A2 A3 hd bv (encL e) _ bv.length (encL e).length c2 c3 _ (hn2r.out.new hn3.below) hn3.own.rb rfl rfl rfl HE.out (by omega)).mono ?_); rintro e4 w4 ⟨A4, c4, rfl, hn4⟩))
      go_ret
      exact ⟨A4, c4, rfl, hn4.own.mono (Nat.le_trans B2.out.size hn3.below.size), below_then (below_then B2.out hn3.below) hn4.below⟩
    · have hb : ((e.k : Int) == 1) = false := by rw [beq_eq_false_iff_ne]; omega
      have HE := Lib.hid (show hd = encL e by unfold encL; rw [if_neg h1, ← HHD.out, ← HBK.out]; simp)
      have z0 := T2.c0
      rw [HE.out] at hn2o ⊢
      clear hn2r
      clear h1
      go_wp2
      go_ret
      exact ⟨A2, c2, rfl, hn2o.out, B2.out⟩
def docE (e : En) : List UInt8 × Nat := encE e
end Go.Proofs.YtpmnnnbkbcpgjaaGreatDoor

/- The walks of layer 5's laws: copies of entries, comparing. -/
namespace Go.Proofs.YtpmnnnbkbcpgjaaGreatDoor
open Go.RowKit

/-- a copy of an entry in new memory -/
structure NewE (w w' : World) (e : En) (a : EnA) : Prop where
  K : OB w' w.heap.size 5 (.slice a.KA e.K.length a.kc) e.K
  V : OB w' w.heap.size 5 (.slice a.VA e.V.length a.vc) e.V
  below : Below w.heap.size w w'
theorem NewE.ok {w w' : World} {e : En} {a : EnA} (h : NewE w w' e a) (hk : e.k ≤ 255) : EnOk w' e a := ⟨hk, h.K.rb, h.V.rb⟩
theorem put3_below {B : Nat} {w : World} {g : Nat} (h : B ≤ g) (x y z : Value) : Below B w (((w.setCell ⟨g, 0, none⟩ x).setCell ⟨g, 1, none⟩ y).setCell ⟨g, 2, none⟩ z) := (((Below.refl B w).setCell h _).setCell h _).setCell h _
theorem OB.put3 {w : World} {base e g : Nat} {v : Value} {p : List UInt8} (h : OB w base e v p) (hg : v.ownBlock ≠ some g) (x y z : Value) : OB (((w.setCell ⟨g, 0, none⟩ x).setCell ⟨g, 1, none⟩ y).setCell ⟨g, 2, none⟩ z) base e v p :=
  ((h.keep (setCell_grown w g 0 x) (.inr hg)).keep (setCell_grown _ g 1 y) (.inr hg)).keep (setCell_grown _ g 2 z) (.inr hg)

set_option maxRecDepth 100000 in
theorem twinEntry_calls (e : En) (a : EnA) (n m : Nat) (hn : n = e.K.length) (hm : m = e.V.length) (w : World) (hok : EnOk w e a) (h1 : e.K.length ≤ 140737488355328) (h2 : e.V.length ≤ 140737488355328) :
    Calls Tryz.prog 89 #[.agg #[.int .u8 e.k, .slice a.KA n a.kc, .slice a.VA m a.vc]] w fun r w' => ∃ a', r = .returned (.agg #[.int .u8 e.k, .slice a'.KA e.K.length a'.kc, .slice a'.VA e.V.length a'.vc]) ∧ NewE w w' e a' := by
  subst hn; subst hm
  have HB0 := Lib.hid (below_alloc1 (Below.refl w.heap.size w) (Nat.le_refl _) (.cells #[.int .u8 e.k, .slice a.KA e.K.length a.kc, .slice a.VA e.V.length a.vc] 72))
  have HT0 := Lib.hid (Trio.fresh w w.heap.size rfl (.int .u8 e.k) (.slice a.KA e.K.length a.kc) (.slice a.VA e.V.length a.vc) 72)
  have HB := Lib.hid (belowA HB0.out (.cells #[.int .u8 0, .slice none 0 0, .slice none 0 0] 72))
  have HT := Lib.hid (HT0.out.new (below_alloc1 (Below.refl _ _) (Nat.le_refl _) (.cells #[.int .u8 0, .slice none 0 0, .slice none 0 0] 72)))
  have HR := Lib.hid (Trio.fresh (w.alloc (.cells #[.int .u8 e.k, .slice a.KA e.K.length a.kc, .slice a.VA e.V.length a.vc] 72)) (w.heap.size + 1) (asz _ _) (.int .u8 0) (.slice none 0 0) (.slice none 0 0) 72)
  have HK := Lib.hid (hok.K.new HB.out)
  have HV := Lib.hid (hok.V.new HB.out)
  have x0 := HT.out.c0
  have x1 := HT.out.c1
  have x2 := HT.out.c2
  go_enter Tryz.func89, Tryz.ntmps89
  go_wp2
  go_region_held3 (fun w' => w'.cell? ⟨w.heap.size, 0, none⟩ = some (.int .u8 e.k) ∧ w'.cell? ⟨w.heap.size, 1, none⟩ = some (.slice a.KA e.K.length a.kc) ∧ w'.cell? ⟨w.heap.size, 2, none⟩ = some (.slice a.VA e.V.length a.vc)) (go_keep) (first
    | (go_at_call 25; (with_reducible refine (twinR a.KA e.K _ a.kc _ HK.out.drewE rfl h1).mono ?_); rintro e1 w1 ⟨A1, c1, rfl, hn1⟩; have T1 := HT.out.drew.new hn1.below; have y0 := T1.c0; have y1 := T1.c1; have y2 := T1.c2; have R1 := HR.out.drew.new hn1.below; have B1 := Lib.hid (below_then HB.out.drew hn1.below); have tK := trivial)
    | (go_at_call 25; (with_reducible refine (twinR a.VA e.V _ a.vc _ HV.out.drewE rfl h2).mono ?_); rintro e1 w1 ⟨A1, c1, rfl, hn1⟩; have T1 := HT.out.drew.new hn1.below; have y0 := T1.c0; have y1 := T1.c1; have y2 := T1.c2; have R1 := HR.out.drew.new hn1.below; have B1 := Lib.hid (below_then HB.out.drew hn1.below); have tV := trivial)
    | (go_at_call 25; (with_reducible refine (twinR a.VA e.V _ a.vc _ (hok.V.new B1.out) rfl h2).mono ?_); rintro e2 w2 ⟨A2, c2, rfl, hn2⟩; have T2 := T1.new hn2.below; have R2 := R1.new hn2.below; have y0 := T2.c0; have y1 := T2.c1; have y2 := T2.c2; have z0 := R2.c0; have z1 := R2.c1; have z2 := R2.c2; have f0 := R2.fz 0; have f1 := R2.fz 1; have f2 := R2.fz 2; have hz := R2.lt; have B2 := Lib.hid (below_then B1.out hn2.below); have hKo := (hn1.own.new hn2.below).mono HB.out.drew.size; have hVo := hn2.own.mono B1.out.size; go_loud (have fk : Hid ((Value.slice A1 e.K.length c1).ownBlock ≠ some (w.heap.size + 1)) := Lib.hid (fun e9 => by have h9 := Nat.le_trans (Nat.le_of_eq (asz2 w (.cells #[.int .u8 e.k, .slice a.KA e.K.length a.kc, .slice a.VA e.V.length a.vc] 72) (.cells #[.int .u8 0, .slice none 0 0, .slice none 0 0] 72)).symm) (hn1.own.at_base (w.heap.size + 1) e9).1; omega)); go_loud (have fv : Hid ((Value.slice A2 e.V.length c2).ownBlock ≠ some (w.heap.size + 1)) := Lib.hid (fun e9 => by have h9 := (hn2.own.at_base (w.heap.size + 1) e9).1; have h8 := R1.lt; omega)))
    | (go_at_call 25; (with_reducible refine (twinR a.KA e.K _ a.kc _ (hok.K.new B1.out) rfl h1).mono ?_); rintro e2 w2 ⟨A2, c2, rfl, hn2⟩; have T2 := T1.new hn2.below; have R2 := R1.new hn2.below; have y0 := T2.c0; have y1 := T2.c1; have y2 := T2.c2; have z0 := R2.c0; have z1 := R2.c1; have z2 := R2.c2; have f0 := R2.fz 0; have f1 := R2.fz 1; have f2 := R2.fz 2; have hz := R2.lt; have B2 := Lib.hid (below_then B1.out hn2.below); have hVo := (hn1.own.new hn2.below).mono HB.out.drew.size; have hKo := hn2.own.mono B1.out.size; go_loud (have fv : Hid ((Value.slice A1 e.V.length c1).ownBlock ≠ some (w.heap.size + 1)) := Lib.hid (fun e9 => by have h9 := Nat.le_trans (Nat.le_of_eq (asz2 w (.cells #[.int .u8 e.k, .slice a.KA e.K.length a.kc, .slice a.VA e.V.length a.vc] 72) (.cells #[.int .u8 0, .slice none 0 0, .slice none 0 0] 72)).symm) (hn1.own.at_base (w.heap.size + 1) e9).1; omega)); go_loud (have fk : Hid ((Value.slice A2 e.K.length c2).ownBlock ≠ some (w.heap.size + 1)) := Lib.hid (fun e9 => by have h9 := (hn2.own.at_base (w.heap.size + 1) e9).1; have h8 := R1.lt; omega))))
  all_goals
    go_wp2
    first
      | exact bodyPost_ret (results_en rfl _ _ (w.heap.size + 1) _ _ _ rfl (R2.put (.int .u8 e.k) (.slice A1 e.K.length c1) (.slice A2 e.V.length c2)).c0 (R2.put (.int .u8 e.k) (.slice A1 e.K.length c1) (.slice A2 e.V.length c2)).c1 (R2.put (.int .u8 e.k) (.slice A1 e.K.length c1) (.slice A2 e.V.length c2)).c2) rfl ⟨⟨A1, c1, A2, c2⟩, rfl, hKo.put3 fk.out _ _ _, hVo.put3 fv.out _ _ _, B2.out.trans (put3_below (by omega) _ _ _)⟩
      | exact bodyPost_ret (results_en rfl _ _ (w.heap.size + 1) _ _ _ rfl (R2.put (.int .u8 e.k) (.slice A2 e.K.length c2) (.slice A1 e.V.length c1)).c0 (R2.put (.int .u8 e.k) (.slice A2 e.K.length c2) (.slice A1 e.V.length c1)).c1 (R2.put (.int .u8 e.k) (.slice A2 e.K.length c2) (.slice A1 e.V.length c1)).c2) rfl ⟨⟨A2, c2, A1, c1⟩, rfl, hKo.put3 fk.out _ _ _, hVo.put3 fv.out _ _ _, B2.out.trans (put3_below (by omega) _ _ _)⟩
end Go.Proofs.YtpmnnnbkbcpgjaaGreatDoor

/- The walks of layer 5: refuse, and what is given up with. -/
namespace Go.Proofs.YtpmnnnbkbcpgjaaGreatDoor
open Go.RowKit

def refV (e : Int) : Value := .iface 198 (.agg #[.int .i64 e])
theorem refuse_ok (w : World) : Calls Tryz.prog 105 #[.int .i64 0] w fun r w' => r = .returned (.tuple #[]) ∧ w = w' := by
  go_enter Tryz.func105, Tryz.ntmps105
  go_wp2
  go_end0
  exact ⟨rfl, rfl⟩
theorem refuse_no (e : Int) (he : e ≠ 0) (w : World) : Calls Tryz.prog 105 #[.int .i64 e] w fun r w' => r = .panicked [{ v := refV e, recovered := false }] ∧ w = w' := by
  have hb : (e != 0) = true := by rw [bne_iff_ne]; exact he
  clear he
  go_enter Tryz.func105, Tryz.ntmps105
  go_wp2
  exact ⟨rfl, rfl, rfl⟩
theorem assert_ref (e : Int) (w : World) : (Instr.typeAssert (refV e) 20 198 true).run Tryz.prog w = .ok (.tuple #[.agg #[.int .i64 e], .bool true]) w := by kernel_rfl
theorem cell_at_new0 (w : World) (v : Value) (t : TypeId) : (w.alloc (.cells #[v] t)).cell? ⟨w.heap.size, 0, none⟩ = some v := by rw [cell_of_row _ _ _ _ _ _ (heap_alloc_new w _)]; rfl
theorem caught_panic (p : Addr) (e : Int) (x : Value) (w : World) (hc : w.cell? p = some x) (hz : w.frozen? p = false) :
    CallsD Tryz.prog 103 #[.pointer (some p)] (.panicking [{ v := refV e, recovered := false }]) w fun r u' w' =>
      r = .returned (.tuple #[]) ∧ u' = .panicking [{ v := refV e, recovered := true }] ∧ w' = (w.alloc (.cells #[.int .i64 e] 198)).setCell p (.int .i64 e) := by
  refine callsD_of_wpS Tryz.func103 rfl fun c₀ cs hu => ?_
  unfold refV at hu
  apply wpS_seq
  apply wpS_region
  simp [wpOpsS, go_sem, recoverD, hu, Tryz.ntmps103, Exit.thenS]
  apply wpS_seq
  apply wpS_region
  simp [wpOpsS, go_sem, recoverD, Exit.thenS]
  refine wpS_cond (t := true) (by simp [Act.eval, Array.replicate]) ?_
  simp only [if_true]
  apply wpS_seq
  apply wpS_region
  have hta := assert_ref e
  unfold refV at hta
  simp [wpOpsS, go_sem, recoverD, Exit.thenS, hta]
  apply wpS_seq
  apply wpS_seq
  apply wpS_region
  simp [wpOpsS, go_sem, recoverD, Exit.thenS]
  refine wpS_cond (t := false) (by simp [Act.eval, Array.replicate]) ?_
  simp only [Bool.false_eq_true, if_false]
  refine wpS_of_wp (wp_skip ?_)
  simp only [Exit.thenS]
  apply wpS_region
  have h0 := cell_at_new0 w (.int .i64 e) 198
  have hc1 : (w.alloc (.cells #[.int .i64 e] 198)).cell? p = some x := ((below_alloc1 (Below.refl w.heap.size w) (Nat.le_refl _) _).cell (World.block_lt_of_cell? w _ hc)).trans hc
  have hz1 : (w.alloc (.cells #[.int .i64 e] 198)).frozen? p = false := ((below_alloc1 (Below.refl w.heap.size w) (Nat.le_refl _) _).frozen (World.block_lt_of_cell? w _ hc)).trans hz
  simp [wpOpsS, go_sem, hc1, hz1, h0, bodyPostS, results, Tryz.results103]
  rfl
set_option maxRecDepth 100000 in
theorem caught_idle (p : Addr) (w : World) :
    CallsD Tryz.prog 103 #[.pointer (some p)] .returning w fun r u' w' => r = .returned (.tuple #[]) ∧ u' = .returning ∧ w' = w := by
  refine callsD_of_wpS Tryz.func103 rfl fun c₀ cs hu => ?_
  apply wpS_seq
  apply wpS_region
  simp [wpOpsS, go_sem, recoverD, hu, Tryz.ntmps103, Exit.thenS]
  apply wpS_seq
  apply wpS_region
  simp [wpOpsS, go_sem, recoverD, Exit.thenS]
  refine wpS_cond (t := false) (by simp [Act.eval, Array.replicate]) ?_
  simp only [Bool.false_eq_true, if_false]
  refine wpS_of_wp (wp_skip ?_)
  cases c₀
  simp_all [bodyPostS, results, Tryz.results103]
end Go.Proofs.YtpmnnnbkbcpgjaaGreatDoor

/- The walk of entry.take: an entry off a reader. -/
namespace Go.Proofs.YtpmnnnbkbcpgjaaGreatDoor
open Go.RowKit
open WireMath (numS beN rawS blobS uvarS grpL uvarL wideL)

/-- two values that do not stand in one block -/
def sepV (u v : Value) : Prop := u.ownBlock = none ∨ u.ownBlock ≠ v.ownBlock
theorem sepV.of_lt {u v : Value} {m : Nat} (h : ∀ k, u.ownBlock = some k → k < m) (g : ∀ k, v.ownBlock = some k → m ≤ k) : sepV u v := by
  by_cases hu : u.ownBlock = none
  · exact .inl hu
  · refine .inr fun e => ?_
    obtain ⟨k, hk⟩ := Option.ne_none_iff_exists'.1 hu
    have h1 := h k hk
    have h2 := g k (e.symm.trans hk)
    omega
/-- an entry taken off: the fault, the entry, the place behind it -/
structure Ent where
  e : Nat
  v : En
  at_ : Nat
def entNo (e : Nat) : Ent := ⟨e, ⟨0, [], []⟩, 0⟩
def entS (P : List UInt8) (at_ : Nat) : Ent :=
  if (numS P at_ 0 1).2.2 ≠ 0 then entNo (numS P at_ 0 1).2.2
  else if (numS P at_ 0 1).1 ≠ 1 ∧ (numS P at_ 0 1).1 ≠ 2 then entNo 3
  else if (blobS P (numS P at_ 0 1).2.1 0 64).2.2 ≠ 0 then entNo (blobS P (numS P at_ 0 1).2.1 0 64).2.2
  else if (numS P at_ 0 1).1 = 1 then
    if (blobS P (blobS P (numS P at_ 0 1).2.1 0 64).2.1 0 256).2.2 ≠ 0 then entNo (blobS P (blobS P (numS P at_ 0 1).2.1 0 64).2.1 0 256).2.2
    else ⟨0, ⟨1, (blobS P (numS P at_ 0 1).2.1 0 64).1, (blobS P (blobS P (numS P at_ 0 1).2.1 0 64).2.1 0 256).1⟩, (blobS P (blobS P (numS P at_ 0 1).2.1 0 64).2.1 0 256).2.1⟩
  else ⟨0, ⟨2, (blobS P (numS P at_ 0 1).2.1 0 64).1, []⟩, (blobS P (numS P at_ 0 1).2.1 0 64).2.1⟩
theorem Trio.keepG {w w' : World} {b c : Nat} {x y z : Value} (h : Trio w b x y z) (hg : w.grownBy w' (some c)) (hb : b ≠ c) : Trio w' b x y z := h.keep (hg.block b h.lt (fun e => hb (Option.some.inj e)))
theorem Trio.set0 {w : World} {b : Nat} {x y z : Value} (h : Trio w b x y z) (u : Value) : Trio (w.setCell ⟨b, 0, none⟩ u) b u y z :=
  ⟨World.cell?_setCell_same _ _ _ h.c0, (World.cell?_setCell_other _ _ _ _ (by simp)).trans h.c1, (World.cell?_setCell_other _ _ _ _ (by simp)).trans h.c2, fun j => by rw [World.frozen?_setCell]; exact h.fz j⟩
theorem Trio.set1 {w : World} {b : Nat} {x y z : Value} (h : Trio w b x y z) (u : Value) : Trio (w.setCell ⟨b, 1, none⟩ u) b x u z :=
  ⟨(World.cell?_setCell_other _ _ _ _ (by simp)).trans h.c0, World.cell?_setCell_same _ _ _ h.c1, (World.cell?_setCell_other _ _ _ _ (by simp)).trans h.c2, fun j => by rw [World.frozen?_setCell]; exact h.fz j⟩
theorem Trio.set2 {w : World} {b : Nat} {x y z : Value} (h : Trio w b x y z) (u : Value) : Trio (w.setCell ⟨b, 2, none⟩ u) b x y u :=
  ⟨(World.cell?_setCell_other _ _ _ _ (by simp)).trans h.c0, (World.cell?_setCell_other _ _ _ _ (by simp)).trans h.c1, World.cell?_setCell_same _ _ _ h.c2, fun j => by rw [World.frozen?_setCell]; exact h.fz j⟩
theorem rblobN (F : Nat → Prop) (b : Nat) (P : List UInt8) (at_ e : Nat) (n : Int) (w : World) (N : Nat) (hr : Rd w F b P at_ e) (hl : P.length ≤ 140737488355328) (hn : n ≤ 9223372036854775807) (q : List UInt8) (a2 e2 : Nat) (hq : WireMath.blobS P at_ e n = (q, a2, e2)) (hN : N = q.length) :
    Calls Tryz.prog 145 #[.pointer (some ⟨b, 0, none⟩), .int .i64 n] w fun e' w' => ∃ A' c', e' = .returned (.slice A' N c') ∧ Got w w' F b P (.slice A' N c') (q, a2, e2) := by
  subst hN
  have := rblob_calls F b P at_ e n w hr hl hn
  rw [hq] at this
  exact this
theorem setCell_step (w : World) (g j : Nat) (v : Value) : Step w (w.setCell ⟨g, j, none⟩ v) (· = g) (· = g) := Step.of_grown (setCell_grown w g j v) rfl
theorem Rd.setBox {w : World} {F : Nat → Prop} {b g j : Nat} {P : List UInt8} {at_ e : Nat} {v : Value} (h : Rd w F b P at_ e) (hg : ¬ F g) : Rd (w.setCell ⟨g, j, none⟩ v) F b P at_ e :=
  h.step (setCell_step w g j v) (fun k hk e9 => hg (by have e9 : k = g := e9; rw [← e9]; exact hk))
/-- what take leaves of the world -/
structure TkW (w w' : World) (F : Nat → Prop) : Prop where
  step : Step w w' F F
theorem TkW.box {w w1 : World} {F : Nat → Prop} {g j : Nat} {v : Value} (h : TkW w w1 F) (hg : w.heap.size ≤ g) : TkW w (w1.setCell ⟨g, j, none⟩ v) F :=
  ⟨⟨h.step.os, h.step.tape, h.step.output, by simpa [World.setCell] using h.step.size, fun k hk hf => (heap_setCell_other _ _ _ _ (by show k ≠ g; omega)).trans (h.step.block k hk hf), h.step.foot⟩⟩
theorem TkW.grown {w w1 w2 : World} {F : Nat → Prop} {b : Nat} (h : TkW w w1 F) (hg : w1.grownBy w2 (some b)) (hb : F b) : TkW w w2 F := ⟨h.step.trans (Step.of_grown hg hb)⟩

section
variable (F : Nat → Prop) (b : Nat) (P : List UInt8) (at_ : Nat) (w : World)
set_option maxHeartbeats 400000 in
set_option maxRecDepth 100000 in
theorem take_n1 (hr : Rd w F b P at_ 0) (hF : ∀ k, F k → k < w.heap.size) (hl : P.length ≤ 140737488355328) (kv a1 e1 : Nat) (hn : numS P at_ 0 1 = (kv, a1, e1)) (he : e1 ≠ 0) :
    Calls Tryz.prog 107 #[.pointer (some ⟨b, 0, none⟩)] w fun r w' => r = .panicked [{ v := refV e1, recovered := false }] ∧ TkW w w' F := by
  have HB := Lib.hid (belowA (below_alloc1 (Below.refl w.heap.size w) (Nat.le_refl _) (.cells #[.int .u8 0, .slice none 0 0, .slice none 0 0] 72)) (.cells #[.int .u8 0, .slice none 0 0, .slice none 0 0] 72))
  have HT := Lib.hid (Trio.fresh (w.alloc (.cells #[.int .u8 0, .slice none 0 0, .slice none 0 0] 72)) (w.heap.size + 1) (asz _ _) (.int .u8 0) (.slice none 0 0) (.slice none 0 0) 72)
  have HR := Lib.hid ((Trio.fresh w w.heap.size rfl (.int .u8 0) (.slice none 0 0) (.slice none 0 0) 72).new (below_alloc1 (Below.refl _ _) (Nat.le_refl _) (.cells #[.int .u8 0, .slice none 0 0, .slice none 0 0] 72)))
  have HRd := Lib.hid (hr.new HB.out)
  have HFb := Lib.hid hr.lo
  have HW := Lib.hid (TkW.mk (Step.of_below HB.out F))
  have hbl := hr.bLt
  have HN1 : Hid (¬ F (w.heap.size + 1)) := Lib.hid (fun e9 => by have := hF _ e9; omega)
  have HN0 : Hid (¬ F w.heap.size) := Lib.hid (fun e9 => by have := hF _ e9; omega)
  have hl2 : P.length ≤ 9223372036854775807 := by omega
  have H64 : (64 : Int) ≤ 9223372036854775807 := by decide
  have H256 : (256 : Int) ≤ 9223372036854775807 := by decide
  have h0 := Lib.hid (show (0 : Int) = ((0 : Nat) : Int) from rfl)
  have HV1 := Lib.hid (show (kv : Int) = ((numS P at_ 0 1).1 : Nat) by simp [hn])
  have HV2 := Lib.hid (show (numS P at_ 0 1).2.1 = a1 by rw [hn])
  have HV3 := Lib.hid (show (numS P at_ 0 1).2.2 = e1 by rw [hn])
  clear hn
  have HE : Hid ((e1 : Int) ≠ 0) := Lib.hid (by omega)
  clear he
  go_enter Tryz.func107, Tryz.ntmps107
  go_wp2_with (first
    | (go_at_call 95; go_loud (with_reducible refine (ru8N F b P at_ 0 kv a1 e1 HV1.out HV2.out HV3.out _ HRd.out hl2).mono ?_); rintro r1 w1 ⟨rfl, hr1, hg1⟩; have T1 := HT.out.keepG hg1 (by omega); have R1 := HR.out.keepG hg1 (by omega); have hz1 := T1.lt; have d0 := T1.c0; have d1 := T1.c1; have d2 := T1.c2; have f0 := T1.fz 0; have f1 := T1.fz 1; have f2 := T1.fz 2; have S1 := Lib.hid (T1.set0 (.int .u8 kv)); have g0 := S1.out.c0; have g1 := S1.out.c1; have g2 := S1.out.c2; have RR1 := Lib.hid (R1.keep (w' := w1.setCell ⟨w.heap.size + 1, 0, none⟩ (.int .u8 kv)) ((setCell_grown w1 (w.heap.size + 1) 0 (.int .u8 kv)).block _ R1.lt (fun e9 => by have := Option.some.inj e9; omega))); have q1 := Lib.hid (hr1.setBox (g := w.heap.size + 1) (j := 0) (v := .int .u8 kv) HN1.out); have W1 := Lib.hid ((HW.out.grown hg1 HFb.out).box (g := w.heap.size + 1) (j := 0) (v := .int .u8 kv) (by omega)); have tk1 := trivial)
    | (go_at_call 106; (have tk := tk1); clear tk1 tk; (with_reducible refine (errN F b P a1 e1 e1 rfl _ q1.out).mono ?_); rintro r2 w2 ⟨rfl, rfl⟩)
    | (go_at_call 105; (with_reducible refine (refuse_no e1 HE.out _).mono ?_); rintro r2 w2 ⟨rfl, rfl⟩))
  exact ⟨rfl, rfl, W1.out⟩
set_option maxHeartbeats 400000 in
set_option maxRecDepth 100000 in
theorem take_n2 (hr : Rd w F b P at_ 0) (hF : ∀ k, F k → k < w.heap.size) (hl : P.length ≤ 140737488355328) (kv a1 : Nat) (hn : numS P at_ 0 1 = (kv, a1, 0)) (h1 : kv ≠ 1) (h2 : kv ≠ 2) :
    Calls Tryz.prog 107 #[.pointer (some ⟨b, 0, none⟩)] w fun r w' => r = .panicked [{ v := refV 3, recovered := false }] ∧ TkW w w' F := by
  have HB := Lib.hid (belowA (below_alloc1 (Below.refl w.heap.size w) (Nat.le_refl _) (.cells #[.int .u8 0, .slice none 0 0, .slice none 0 0] 72)) (.cells #[.int .u8 0, .slice none 0 0, .slice none 0 0] 72))
  have HT := Lib.hid (Trio.fresh (w.alloc (.cells #[.int .u8 0, .slice none 0 0, .slice none 0 0] 72)) (w.heap.size + 1) (asz _ _) (.int .u8 0) (.slice none 0 0) (.slice none 0 0) 72)
  have HR := Lib.hid ((Trio.fresh w w.heap.size rfl (.int .u8 0) (.slice none 0 0) (.slice none 0 0) 72).new (below_alloc1 (Below.refl _ _) (Nat.le_refl _) (.cells #[.int .u8 0, .slice none 0 0, .slice none 0 0] 72)))
  have HRd := Lib.hid (hr.new HB.out)
  have HFb := Lib.hid hr.lo
  have HW := Lib.hid (TkW.mk (Step.of_below HB.out F))
  have hbl := hr.bLt
  have HN1 : Hid (¬ F (w.heap.size + 1)) := Lib.hid (fun e9 => by have := hF _ e9; omega)
  have HN0 : Hid (¬ F w.heap.size) := Lib.hid (fun e9 => by have := hF _ e9; omega)
  have hl2 : P.length ≤ 9223372036854775807 := by omega
  have H64 : (64 : Int) ≤ 9223372036854775807 := by decide
  have H256 : (256 : Int) ≤ 9223372036854775807 := by decide
  have h0 := Lib.hid (show (0 : Int) = ((0 : Nat) : Int) from rfl)
  have HV1 := Lib.hid (show (kv : Int) = ((numS P at_ 0 1).1 : Nat) by simp [hn])
  have HV2 := Lib.hid (show (numS P at_ 0 1).2.1 = a1 by rw [hn])
  have HV3 := Lib.hid (show (numS P at_ 0 1).2.2 = 0 by rw [hn])
  clear hn
  have HE : Hid ((3 : Int) ≠ 0) := Lib.hid (by decide)
  have hb1 : ((kv : Int) != 1) = true := by rw [bne_iff_ne]; omega
  have hb2 : ((kv : Int) != 2) = true := by rw [bne_iff_ne]; omega
  clear h1 h2
  go_enter Tryz.func107, Tryz.ntmps107
  go_wp2_with (first
    | (go_at_call 95; go_loud (with_reducible refine (ru8N F b P at_ 0 kv a1 0 HV1.out HV2.out HV3.out _ HRd.out hl2).mono ?_); rintro r1 w1 ⟨rfl, hr1, hg1⟩; have T1 := HT.out.keepG hg1 (by omega); have R1 := HR.out.keepG hg1 (by omega); have hz1 := T1.lt; have d0 := T1.c0; have d1 := T1.c1; have d2 := T1.c2; have f0 := T1.fz 0; have f1 := T1.fz 1; have f2 := T1.fz 2; have S1 := Lib.hid (T1.set0 (.int .u8 kv)); have g0 := S1.out.c0; have g1 := S1.out.c1; have g2 := S1.out.c2; have RR1 := Lib.hid (R1.keep (w' := w1.setCell ⟨w.heap.size + 1, 0, none⟩ (.int .u8 kv)) ((setCell_grown w1 (w.heap.size + 1) 0 (.int .u8 kv)).block _ R1.lt (fun e9 => by have := Option.some.inj e9; omega))); have q1 := Lib.hid (hr1.setBox (g := w.heap.size + 1) (j := 0) (v := .int .u8 kv) HN1.out); have W1 := Lib.hid ((HW.out.grown hg1 HFb.out).box (g := w.heap.size + 1) (j := 0) (v := .int .u8 kv) (by omega)); have tk1 := trivial)
    | (go_at_call 106; (have tk := tk1); clear tk1 tk; (with_reducible refine (errN F b P a1 0 0 h0.out _ q1.out).mono ?_); rintro r2 w2 ⟨rfl, rfl⟩)
    | (go_at_call 105; (with_reducible refine (refuse_ok _).mono ?_); rintro r2 w2 ⟨rfl, rfl⟩)
    | (go_at_call 105; (with_reducible refine (refuse_no 3 HE.out _).mono ?_); rintro r2 w2 ⟨rfl, rfl⟩))
  exact ⟨rfl, rfl, W1.out⟩
set_option maxHeartbeats 400000 in
set_option maxRecDepth 100000 in
theorem take_n3a (hr : Rd w F b P at_ 0) (hF : ∀ k, F k → k < w.heap.size) (hl : P.length ≤ 140737488355328) (K : List UInt8) (a1 a2 e2 : Nat) (hn : numS P at_ 0 1 = (1, a1, 0)) (hk : blobS P a1 0 64 = (K, a2, e2)) (he : e2 ≠ 0) :
    Calls Tryz.prog 107 #[.pointer (some ⟨b, 0, none⟩)] w fun r w' => r = .panicked [{ v := refV e2, recovered := false }] ∧ TkW w w' F := by
  have HB := Lib.hid (belowA (below_alloc1 (Below.refl w.heap.size w) (Nat.le_refl _) (.cells #[.int .u8 0, .slice none 0 0, .slice none 0 0] 72)) (.cells #[.int .u8 0, .slice none 0 0, .slice none 0 0] 72))
  have HT := Lib.hid (Trio.fresh (w.alloc (.cells #[.int .u8 0, .slice none 0 0, .slice none 0 0] 72)) (w.heap.size + 1) (asz _ _) (.int .u8 0) (.slice none 0 0) (.slice none 0 0) 72)
  have HR := Lib.hid ((Trio.fresh w w.heap.size rfl (.int .u8 0) (.slice none 0 0) (.slice none 0 0) 72).new (below_alloc1 (Below.refl _ _) (Nat.le_refl _) (.cells #[.int .u8 0, .slice none 0 0, .slice none 0 0] 72)))
  have HRd := Lib.hid (hr.new HB.out)
  have HFb := Lib.hid hr.lo
  have HW := Lib.hid (TkW.mk (Step.of_below HB.out F))
  have hbl := hr.bLt
  have HN1 : Hid (¬ F (w.heap.size + 1)) := Lib.hid (fun e9 => by have := hF _ e9; omega)
  have HN0 : Hid (¬ F w.heap.size) := Lib.hid (fun e9 => by have := hF _ e9; omega)
  have hl2 : P.length ≤ 9223372036854775807 := by omega
  have H64 : (64 : Int) ≤ 9223372036854775807 := by decide
  have H256 : (256 : Int) ≤ 9223372036854775807 := by decide
  have h0 := Lib.hid (show (0 : Int) = ((0 : Nat) : Int) from rfl)
  have HV1 := Lib.hid (show (1 : Int) = ((numS P at_ 0 1).1 : Nat) by simp [hn])
  have HV2 := Lib.hid (show (numS P at_ 0 1).2.1 = a1 by rw [hn])
  have HV3 := Lib.hid (show (numS P at_ 0 1).2.2 = 0 by rw [hn])
  clear hn
  have HK := Lib.hid hk
  clear hk
  have HE : Hid ((e2 : Int) ≠ 0) := Lib.hid (by omega)
  clear he
  go_enter Tryz.func107, Tryz.ntmps107
  go_wp2_with (first
    | (go_at_call 95; go_loud (with_reducible refine (ru8N F b P at_ 0 1 a1 0 HV1.out HV2.out HV3.out _ HRd.out hl2).mono ?_); rintro r1 w1 ⟨rfl, hr1, hg1⟩; have T1 := HT.out.keepG hg1 (by omega); have R1 := HR.out.keepG hg1 (by omega); have hz1 := T1.lt; have d0 := T1.c0; have d1 := T1.c1; have d2 := T1.c2; have f0 := T1.fz 0; have f1 := T1.fz 1; have f2 := T1.fz 2; have S1 := Lib.hid (T1.set0 (.int .u8 1)); have g0 := S1.out.c0; have g1 := S1.out.c1; have g2 := S1.out.c2; have RR1 := Lib.hid (R1.keep (w' := w1.setCell ⟨w.heap.size + 1, 0, none⟩ (.int .u8 1)) ((setCell_grown w1 (w.heap.size + 1) 0 (.int .u8 1)).block _ R1.lt (fun e9 => by have := Option.some.inj e9; omega))); have q1 := Lib.hid (hr1.setBox (g := w.heap.size + 1) (j := 0) (v := .int .u8 1) HN1.out); have W1 := Lib.hid ((HW.out.grown hg1 HFb.out).box (g := w.heap.size + 1) (j := 0) (v := .int .u8 1) (by omega)); have tk1 := trivial)
    | (go_at_call 106; (have tk := tk1); clear tk1 tk; (with_reducible refine (errN F b P a1 0 0 h0.out _ q1.out).mono ?_); rintro r2 w2 ⟨rfl, rfl⟩)
    | (go_at_call 145; (with_reducible refine (rblobN F b P a1 0 64 _ K.length q1.out hl H64 K a2 e2 HK.out rfl).mono ?_); rintro r3 w3 ⟨A3, c3, rfl, hg3⟩; have T3 := S1.out.keepG hg3.grown (by omega); have R3 := RR1.out.keepG hg3.grown (by omega); have hz3 := T3.lt; have d0 := T3.c0; have d1 := T3.c1; have d2 := T3.c2; have f0 := T3.fz 0; have f1 := T3.fz 1; have f2 := T3.fz 2; have S3 := Lib.hid (T3.set1 (.slice A3 K.length c3)); have g0 := S3.out.c0; have g1 := S3.out.c1; have g2 := S3.out.c2; have RR3 := Lib.hid (R3.keep (w' := w3.setCell ⟨w.heap.size + 1, 1, none⟩ (.slice A3 K.length c3)) ((setCell_grown w3 (w.heap.size + 1) 1 (.slice A3 K.length c3)).block _ R3.lt (fun e9 => by have := Option.some.inj e9; omega))); have q3 := Lib.hid (hg3.rd.setBox (g := w.heap.size + 1) (j := 1) (v := .slice A3 K.length c3) HN1.out); have W3 := Lib.hid ((W1.out.grown hg3.grown HFb.out).box (g := w.heap.size + 1) (j := 1) (v := .slice A3 K.length c3) (by omega)); have n3 : Hid ((Value.slice A3 K.length c3).ownBlock ≠ some (w.heap.size + 1)) := Lib.hid (fun e9 => by have := (hg3.own.at_base _ e9).1; have := S1.out.lt; omega); have n30 : Hid ((Value.slice A3 K.length c3).ownBlock ≠ some w.heap.size) := Lib.hid (fun e9 => by have := (hg3.own.at_base _ e9).1; have := S1.out.lt; omega); have O3 := Lib.hid (hg3.own.keep (setCell_grown w3 (w.heap.size + 1) 1 (.slice A3 K.length c3)) (.inr n3.out)); have tk3 := trivial)
    | (go_at_call 106; (have tk := tk3); clear tk3 tk; (with_reducible refine (errN F b P a2 e2 e2 rfl _ q3.out).mono ?_); rintro r2 w2 ⟨rfl, rfl⟩)
    | (go_at_call 105; (with_reducible refine (refuse_ok _).mono ?_); rintro r2 w2 ⟨rfl, rfl⟩)
    | (go_at_call 105; (with_reducible refine (refuse_no e2 HE.out _).mono ?_); rintro r2 w2 ⟨rfl, rfl⟩))
  exact ⟨rfl, rfl, W3.out⟩
set_option maxHeartbeats 400000 in
set_option maxRecDepth 100000 in
theorem take_n3b (hr : Rd w F b P at_ 0) (hF : ∀ k, F k → k < w.heap.size) (hl : P.length ≤ 140737488355328) (K : List UInt8) (a1 a2 e2 : Nat) (hn : numS P at_ 0 1 = (2, a1, 0)) (hk : blobS P a1 0 64 = (K, a2, e2)) (he : e2 ≠ 0) :
    Calls Tryz.prog 107 #[.pointer (some ⟨b, 0, none⟩)] w fun r w' => r = .panicked [{ v := refV e2, recovered := false }] ∧ TkW w w' F := by
  have HB := Lib.hid (belowA (below_alloc1 (Below.refl w.heap.size w) (Nat.le_refl _) (.cells #[.int .u8 0, .slice none 0 0, .slice none 0 0] 72)) (.cells #[.int .u8 0, .slice none 0 0, .slice none 0 0] 72))
  have HT := Lib.hid (Trio.fresh (w.alloc (.cells #[.int .u8 0, .slice none 0 0, .slice none 0 0] 72)) (w.heap.size + 1) (asz _ _) (.int .u8 0) (.slice none 0 0) (.slice none 0 0) 72)
  have HR := Lib.hid ((Trio.fresh w w.heap.size rfl (.int .u8 0) (.slice none 0 0) (.slice none 0 0) 72).new (below_alloc1 (Below.refl _ _) (Nat.le_refl _) (.cells #[.int .u8 0, .slice none 0 0, .slice none 0 0] 72)))
  have HRd := Lib.hid (hr.new HB.out)
  have HFb := Lib.hid hr.lo
  have HW := Lib.hid (TkW.mk (Step.of_below HB.out F))
  have hbl := hr.bLt
  have HN1 : Hid (¬ F (w.heap.size + 1)) := Lib.hid (fun e9 => by have := hF _ e9; omega)
  have HN0 : Hid (¬ F w.heap.size) := Lib.hid (fun e9 => by have := hF _ e9; omega)
  have hl2 : P.length ≤ 9223372036854775807 := by omega
  have H64 : (64 : Int) ≤ 9223372036854775807 := by decide
  have H256 : (256 : Int) ≤ 9223372036854775807 := by decide
  have h0 := Lib.hid (show (0 : Int) = ((0 : Nat) : Int) from rfl)
  have HV1 := Lib.hid (show (2 : Int) = ((numS P at_ 0 1).1 : Nat) by simp [hn])
  have HV2 := Lib.hid (show (numS P at_ 0 1).2.1 = a1 by rw [hn])
  have HV3 := Lib.hid (show (numS P at_ 0 1).2.2 = 0 by rw [hn])
  clear hn
  have HK := Lib.hid hk
  clear hk
  have HE : Hid ((e2 : Int) ≠ 0) := Lib.hid (by omega)
  clear he
  go_enter Tryz.func107, Tryz.ntmps107
  go_wp2_with (first
    | (go_at_call 95; go_loud (with_reducible refine (ru8N F b P at_ 0 2 a1 0 HV1.out HV2.out HV3.out _ HRd.out hl2).mono ?_); rintro r1 w1 ⟨rfl, hr1, hg1⟩; have T1 := HT.out.keepG hg1 (by omega); have R1 := HR.out.keepG hg1 (by omega); have hz1 := T1.lt; have d0 := T1.c0; have d1 := T1.c1; have d2 := T1.c2; have f0 := T1.fz 0; have f1 := T1.fz 1; have f2 := T1.fz 2; have S1 := Lib.hid (T1.set0 (.int .u8 2)); have g0 := S1.out.c0; have g1 := S1.out.c1; have g2 := S1.out.c2; have RR1 := Lib.hid (R1.keep (w' := w1.setCell ⟨w.heap.size + 1, 0, none⟩ (.int .u8 2)) ((setCell_grown w1 (w.heap.size + 1) 0 (.int .u8 2)).block _ R1.lt (fun e9 => by have := Option.some.inj e9; omega))); have q1 := Lib.hid (hr1.setBox (g := w.heap.size + 1) (j := 0) (v := .int .u8 2) HN1.out); have W1 := Lib.hid ((HW.out.grown hg1 HFb.out).box (g := w.heap.size + 1) (j := 0) (v := .int .u8 2) (by omega)); have tk1 := trivial)
    | (go_at_call 106; (have tk := tk1); clear tk1 tk; (with_reducible refine (errN F b P a1 0 0 h0.out _ q1.out).mono ?_); rintro r2 w2 ⟨rfl, rfl⟩)
    | (go_at_call 145; (with_reducible refine (rblobN F b P a1 0 64 _ K.length q1.out hl H64 K a2 e2 HK.out rfl).mono ?_); rintro r3 w3 ⟨A3, c3, rfl, hg3⟩; have T3 := S1.out.keepG hg3.grown (by omega); have R3 := RR1.out.keepG hg3.grown (by omega); have hz3 := T3.lt; have d0 := T3.c0; have d1 := T3.c1; have d2 := T3.c2; have f0 := T3.fz 0; have f1 := T3.fz 1; have f2 := T3.fz 2; have S3 := Lib.hid (T3.set1 (.slice A3 K.length c3)); have g0 := S3.out.c0; have g1 := S3.out.c1; have g2 := S3.out.c2; have RR3 := Lib.hid (R3.keep (w' := w3.setCell ⟨w.heap.size + 1, 1, none⟩ (.slice A3 K.length c3)) ((setCell_grown w3 (w.heap.size + 1) 1 (.slice A3 K.length c3)).block _ R3.lt (fun e9 => by have := Option.some.inj e9; omega))); have q3 := Lib.hid (hg3.rd.setBox (g := w.heap.size + 1) (j := 1) (v := .slice A3 K.length c3) HN1.out); have W3 := Lib.hid ((W1.out.grown hg3.grown HFb.out).box (g := w.heap.size + 1) (j := 1) (v := .slice A3 K.length c3) (by omega)); have n3 : Hid ((Value.slice A3 K.length c3).ownBlock ≠ some (w.heap.size + 1)) := Lib.hid (fun e9 => by have := (hg3.own.at_base _ e9).1; have := S1.out.lt; omega); have n30 : Hid ((Value.slice A3 K.length c3).ownBlock ≠ some w.heap.size) := Lib.hid (fun e9 => by have := (hg3.own.at_base _ e9).1; have := S1.out.lt; omega); have O3 := Lib.hid (hg3.own.keep (setCell_grown w3 (w.heap.size + 1) 1 (.slice A3 K.length c3)) (.inr n3.out)); have tk3 := trivial)
    | (go_at_call 106; (have tk := tk3); clear tk3 tk; (with_reducible refine (errN F b P a2 e2 e2 rfl _ q3.out).mono ?_); rintro r2 w2 ⟨rfl, rfl⟩)
    | (go_at_call 105; (with_reducible refine (refuse_ok _).mono ?_); rintro r2 w2 ⟨rfl, rfl⟩)
    | (go_at_call 105; (with_reducible refine (refuse_no e2 HE.out _).mono ?_); rintro r2 w2 ⟨rfl, rfl⟩))
  exact ⟨rfl, rfl, W3.out⟩
set_option maxHeartbeats 400000 in
set_option maxRecDepth 100000 in
theorem take_n4 (hr : Rd w F b P at_ 0) (hF : ∀ k, F k → k < w.heap.size) (hl : P.length ≤ 140737488355328) (K V : List UInt8) (a1 a2 a3 e3 : Nat) (hn : numS P at_ 0 1 = (1, a1, 0)) (hk : blobS P a1 0 64 = (K, a2, 0)) (hv : blobS P a2 0 256 = (V, a3, e3)) (he : e3 ≠ 0) :
    Calls Tryz.prog 107 #[.pointer (some ⟨b, 0, none⟩)] w fun r w' => r = .panicked [{ v := refV e3, recovered := false }] ∧ TkW w w' F := by
  have HB := Lib.hid (belowA (below_alloc1 (Below.refl w.heap.size w) (Nat.le_refl _) (.cells #[.int .u8 0, .slice none 0 0, .slice none 0 0] 72)) (.cells #[.int .u8 0, .slice none 0 0, .slice none 0 0] 72))
  have HT := Lib.hid (Trio.fresh (w.alloc (.cells #[.int .u8 0, .slice none 0 0, .slice none 0 0] 72)) (w.heap.size + 1) (asz _ _) (.int .u8 0) (.slice none 0 0) (.slice none 0 0) 72)
  have HR := Lib.hid ((Trio.fresh w w.heap.size rfl (.int .u8 0) (.slice none 0 0) (.slice none 0 0) 72).new (below_alloc1 (Below.refl _ _) (Nat.le_refl _) (.cells #[.int .u8 0, .slice none 0 0, .slice none 0 0] 72)))
  have HRd := Lib.hid (hr.new HB.out)
  have HFb := Lib.hid hr.lo
  have HW := Lib.hid (TkW.mk (Step.of_below HB.out F))
  have hbl := hr.bLt
  have HN1 : Hid (¬ F (w.heap.size + 1)) := Lib.hid (fun e9 => by have := hF _ e9; omega)
  have HN0 : Hid (¬ F w.heap.size) := Lib.hid (fun e9 => by have := hF _ e9; omega)
  have hl2 : P.length ≤ 9223372036854775807 := by omega
  have H64 : (64 : Int) ≤ 9223372036854775807 := by decide
  have H256 : (256 : Int) ≤ 9223372036854775807 := by decide
  have h0 := Lib.hid (show (0 : Int) = ((0 : Nat) : Int) from rfl)
  have HV1 := Lib.hid (show (1 : Int) = ((numS P at_ 0 1).1 : Nat) by simp [hn])
  have HV2 := Lib.hid (show (numS P at_ 0 1).2.1 = a1 by rw [hn])
  have HV3 := Lib.hid (show (numS P at_ 0 1).2.2 = 0 by rw [hn])
  clear hn
  have HK := Lib.hid hk
  have HVV := Lib.hid hv
  clear hk hv
  have HE : Hid ((e3 : Int) ≠ 0) := Lib.hid (by omega)
  clear he
  go_enter Tryz.func107, Tryz.ntmps107
  go_wp2_with (first
    | (go_at_call 95; go_loud (with_reducible refine (ru8N F b P at_ 0 1 a1 0 HV1.out HV2.out HV3.out _ HRd.out hl2).mono ?_); rintro r1 w1 ⟨rfl, hr1, hg1⟩; have T1 := HT.out.keepG hg1 (by omega); have R1 := HR.out.keepG hg1 (by omega); have hz1 := T1.lt; have d0 := T1.c0; have d1 := T1.c1; have d2 := T1.c2; have f0 := T1.fz 0; have f1 := T1.fz 1; have f2 := T1.fz 2; have S1 := Lib.hid (T1.set0 (.int .u8 1)); have g0 := S1.out.c0; have g1 := S1.out.c1; have g2 := S1.out.c2; have RR1 := Lib.hid (R1.keep (w' := w1.setCell ⟨w.heap.size + 1, 0, none⟩ (.int .u8 1)) ((setCell_grown w1 (w.heap.size + 1) 0 (.int .u8 1)).block _ R1.lt (fun e9 => by have := Option.some.inj e9; omega))); have q1 := Lib.hid (hr1.setBox (g := w.heap.size + 1) (j := 0) (v := .int .u8 1) HN1.out); have W1 := Lib.hid ((HW.out.grown hg1 HFb.out).box (g := w.heap.size + 1) (j := 0) (v := .int .u8 1) (by omega)); have tk1 := trivial)
    | (go_at_call 106; (have tk := tk1); clear tk1 tk; (with_reducible refine (errN F b P a1 0 0 h0.out _ q1.out).mono ?_); rintro r2 w2 ⟨rfl, rfl⟩)
    | (go_at_call 145; (with_reducible refine (rblobN F b P a1 0 64 _ K.length q1.out hl H64 K a2 0 HK.out rfl).mono ?_); rintro r3 w3 ⟨A3, c3, rfl, hg3⟩; have T3 := S1.out.keepG hg3.grown (by omega); have R3 := RR1.out.keepG hg3.grown (by omega); have hz3 := T3.lt; have d0 := T3.c0; have d1 := T3.c1; have d2 := T3.c2; have f0 := T3.fz 0; have f1 := T3.fz 1; have f2 := T3.fz 2; have S3 := Lib.hid (T3.set1 (.slice A3 K.length c3)); have g0 := S3.out.c0; have g1 := S3.out.c1; have g2 := S3.out.c2; have RR3 := Lib.hid (R3.keep (w' := w3.setCell ⟨w.heap.size + 1, 1, none⟩ (.slice A3 K.length c3)) ((setCell_grown w3 (w.heap.size + 1) 1 (.slice A3 K.length c3)).block _ R3.lt (fun e9 => by have := Option.some.inj e9; omega))); have q3 := Lib.hid (hg3.rd.setBox (g := w.heap.size + 1) (j := 1) (v := .slice A3 K.length c3) HN1.out); have W3 := Lib.hid ((W1.out.grown hg3.grown HFb.out).box (g := w.heap.size + 1) (j := 1) (v := .slice A3 K.length c3) (by omega)); have n3 : Hid ((Value.slice A3 K.length c3).ownBlock ≠ some (w.heap.size + 1)) := Lib.hid (fun e9 => by have := (hg3.own.at_base _ e9).1; have := S1.out.lt; omega); have n30 : Hid ((Value.slice A3 K.length c3).ownBlock ≠ some w.heap.size) := Lib.hid (fun e9 => by have := (hg3.own.at_base _ e9).1; have := S1.out.lt; omega); have O3 := Lib.hid (hg3.own.keep (setCell_grown w3 (w.heap.size + 1) 1 (.slice A3 K.length c3)) (.inr n3.out)); have tk3 := trivial)
    | (go_at_call 106; (have tk := tk3); clear tk3 tk; (with_reducible refine (errN F b P a2 0 0 h0.out _ q3.out).mono ?_); rintro r2 w2 ⟨rfl, rfl⟩)
    | (go_at_call 145; (with_reducible refine (rblobN F b P a2 0 256 _ V.length q3.out hl H256 V a3 e3 HVV.out rfl).mono ?_); rintro r5 w5 ⟨A5, c5, rfl, hg5⟩; have T5 := S3.out.keepG hg5.grown (by omega); have R5 := RR3.out.keepG hg5.grown (by omega); have hz5 := T5.lt; have d0 := T5.c0; have d1 := T5.c1; have d2 := T5.c2; have f0 := T5.fz 0; have f1 := T5.fz 1; have f2 := T5.fz 2; have S5 := Lib.hid (T5.set2 (.slice A5 V.length c5)); have g0 := S5.out.c0; have g1 := S5.out.c1; have g2 := S5.out.c2; have RR5 := Lib.hid (R5.keep (w' := w5.setCell ⟨w.heap.size + 1, 2, none⟩ (.slice A5 V.length c5)) ((setCell_grown w5 (w.heap.size + 1) 2 (.slice A5 V.length c5)).block _ R5.lt (fun e9 => by have := Option.some.inj e9; omega))); have k0 := RR5.out.c0; have k1 := RR5.out.c1; have k2 := RR5.out.c2; have l0 := RR5.out.fz 0; have l1 := RR5.out.fz 1; have l2 := RR5.out.fz 2; have q5 := Lib.hid (hg5.rd.setBox (g := w.heap.size + 1) (j := 2) (v := .slice A5 V.length c5) HN1.out); have W5 := Lib.hid ((W3.out.grown hg5.grown HFb.out).box (g := w.heap.size + 1) (j := 2) (v := .slice A5 V.length c5) (by omega)); have n5 : Hid ((Value.slice A5 V.length c5).ownBlock ≠ some (w.heap.size + 1)) := Lib.hid (fun e9 => by have := (hg5.own.at_base _ e9).1; have := S3.out.lt; omega); have n50 : Hid ((Value.slice A5 V.length c5).ownBlock ≠ some w.heap.size) := Lib.hid (fun e9 => by have := (hg5.own.at_base _ e9).1; have := S3.out.lt; omega); have O5 := Lib.hid (hg5.own.keep (setCell_grown w5 (w.heap.size + 1) 2 (.slice A5 V.length c5)) (.inr n5.out)); have O35 := Lib.hid ((O3.out.keep (row := some b) hg5.grown (.inr (fun e9 => by have := (hg3.own.at_base _ e9).1; have := S1.out.lt; omega))).keep (setCell_grown w5 (w.heap.size + 1) 2 (.slice A5 V.length c5)) (.inr n3.out)); have tk5 := trivial)
    | (go_at_call 106; (have tk := tk5); clear tk5 tk; (with_reducible refine (errN F b P a3 e3 e3 rfl _ q5.out).mono ?_); rintro r2 w2 ⟨rfl, rfl⟩)
    | (go_at_call 105; (with_reducible refine (refuse_ok _).mono ?_); rintro r2 w2 ⟨rfl, rfl⟩)
    | (go_at_call 105; (with_reducible refine (refuse_no e3 HE.out _).mono ?_); rintro r2 w2 ⟨rfl, rfl⟩))
  exact ⟨rfl, rfl, W5.out⟩
set_option maxHeartbeats 400000 in
set_option maxRecDepth 100000 in
theorem take_put (hr : Rd w F b P at_ 0) (hF : ∀ k, F k → k < w.heap.size) (hl : P.length ≤ 140737488355328) (K V : List UInt8) (a1 a2 a3 : Nat) (hn : numS P at_ 0 1 = (1, a1, 0)) (hk : blobS P a1 0 64 = (K, a2, 0)) (hv : blobS P a2 0 256 = (V, a3, 0)) :
    Calls Tryz.prog 107 #[.pointer (some ⟨b, 0, none⟩)] w fun r w' => ∃ a : EnA, r = .returned (.agg #[.int .u8 (1 : Nat), .slice a.KA K.length a.kc, .slice a.VA V.length a.vc]) ∧ OB w' w.heap.size 5 (.slice a.KA K.length a.kc) K ∧ OB w' w.heap.size 5 (.slice a.VA V.length a.vc) V ∧ Rd w' F b P a3 0 ∧ TkW w w' F ∧ sepV (.slice a.KA K.length a.kc) (.slice a.VA V.length a.vc) := by
  have HB := Lib.hid (belowA (below_alloc1 (Below.refl w.heap.size w) (Nat.le_refl _) (.cells #[.int .u8 0, .slice none 0 0, .slice none 0 0] 72)) (.cells #[.int .u8 0, .slice none 0 0, .slice none 0 0] 72))
  have HT := Lib.hid (Trio.fresh (w.alloc (.cells #[.int .u8 0, .slice none 0 0, .slice none 0 0] 72)) (w.heap.size + 1) (asz _ _) (.int .u8 0) (.slice none 0 0) (.slice none 0 0) 72)
  have HR := Lib.hid ((Trio.fresh w w.heap.size rfl (.int .u8 0) (.slice none 0 0) (.slice none 0 0) 72).new (below_alloc1 (Below.refl _ _) (Nat.le_refl _) (.cells #[.int .u8 0, .slice none 0 0, .slice none 0 0] 72)))
  have HRd := Lib.hid (hr.new HB.out)
  have HFb := Lib.hid hr.lo
  have HW := Lib.hid (TkW.mk (Step.of_below HB.out F))
  have hbl := hr.bLt
  have HN1 : Hid (¬ F (w.heap.size + 1)) := Lib.hid (fun e9 => by have := hF _ e9; omega)
  have HN0 : Hid (¬ F w.heap.size) := Lib.hid (fun e9 => by have := hF _ e9; omega)
  have hl2 : P.length ≤ 9223372036854775807 := by omega
  have H64 : (64 : Int) ≤ 9223372036854775807 := by decide
  have H256 : (256 : Int) ≤ 9223372036854775807 := by decide
  have h0 := Lib.hid (show (0 : Int) = ((0 : Nat) : Int) from rfl)
  have HV1 := Lib.hid (show (1 : Int) = ((numS P at_ 0 1).1 : Nat) by simp [hn])
  have HV2 := Lib.hid (show (numS P at_ 0 1).2.1 = a1 by rw [hn])
  have HV3 := Lib.hid (show (numS P at_ 0 1).2.2 = 0 by rw [hn])
  clear hn
  have HK := Lib.hid hk
  have HVV := Lib.hid hv
  clear hk hv
  go_enter Tryz.func107, Tryz.ntmps107
  go_wp2_with (first
    | (go_at_call 95; go_loud (with_reducible refine (ru8N F b P at_ 0 1 a1 0 HV1.out HV2.out HV3.out _ HRd.out hl2).mono ?_); rintro r1 w1 ⟨rfl, hr1, hg1⟩; have T1 := HT.out.keepG hg1 (by omega); have R1 := HR.out.keepG hg1 (by omega); have hz1 := T1.lt; have d0 := T1.c0; have d1 := T1.c1; have d2 := T1.c2; have f0 := T1.fz 0; have f1 := T1.fz 1; have f2 := T1.fz 2; have S1 := Lib.hid (T1.set0 (.int .u8 1)); have g0 := S1.out.c0; have g1 := S1.out.c1; have g2 := S1.out.c2; have RR1 := Lib.hid (R1.keep (w' := w1.setCell ⟨w.heap.size + 1, 0, none⟩ (.int .u8 1)) ((setCell_grown w1 (w.heap.size + 1) 0 (.int .u8 1)).block _ R1.lt (fun e9 => by have := Option.some.inj e9; omega))); have q1 := Lib.hid (hr1.setBox (g := w.heap.size + 1) (j := 0) (v := .int .u8 1) HN1.out); have W1 := Lib.hid ((HW.out.grown hg1 HFb.out).box (g := w.heap.size + 1) (j := 0) (v := .int .u8 1) (by omega)); have tk1 := trivial)
    | (go_at_call 106; (have tk := tk1); clear tk1 tk; (with_reducible refine (errN F b P a1 0 0 h0.out _ q1.out).mono ?_); rintro r2 w2 ⟨rfl, rfl⟩)
    | (go_at_call 145; (with_reducible refine (rblobN F b P a1 0 64 _ K.length q1.out hl H64 K a2 0 HK.out rfl).mono ?_); rintro r3 w3 ⟨A3, c3, rfl, hg3⟩; have T3 := S1.out.keepG hg3.grown (by omega); have R3 := RR1.out.keepG hg3.grown (by omega); have hz3 := T3.lt; have d0 := T3.c0; have d1 := T3.c1; have d2 := T3.c2; have f0 := T3.fz 0; have f1 := T3.fz 1; have f2 := T3.fz 2; have S3 := Lib.hid (T3.set1 (.slice A3 K.length c3)); have g0 := S3.out.c0; have g1 := S3.out.c1; have g2 := S3.out.c2; have RR3 := Lib.hid (R3.keep (w' := w3.setCell ⟨w.heap.size + 1, 1, none⟩ (.slice A3 K.length c3)) ((setCell_grown w3 (w.heap.size + 1) 1 (.slice A3 K.length c3)).block _ R3.lt (fun e9 => by have := Option.some.inj e9; omega))); have q3 := Lib.hid (hg3.rd.setBox (g := w.heap.size + 1) (j := 1) (v := .slice A3 K.length c3) HN1.out); have W3 := Lib.hid ((W1.out.grown hg3.grown HFb.out).box (g := w.heap.size + 1) (j := 1) (v := .slice A3 K.length c3) (by omega)); have n3 : Hid ((Value.slice A3 K.length c3).ownBlock ≠ some (w.heap.size + 1)) := Lib.hid (fun e9 => by have := (hg3.own.at_base _ e9).1; have := S1.out.lt; omega); have n30 : Hid ((Value.slice A3 K.length c3).ownBlock ≠ some w.heap.size) := Lib.hid (fun e9 => by have := (hg3.own.at_base _ e9).1; have := S1.out.lt; omega); have O3 := Lib.hid (hg3.own.keep (setCell_grown w3 (w.heap.size + 1) 1 (.slice A3 K.length c3)) (.inr n3.out)); have tk3 := trivial)
    | (go_at_call 106; (have tk := tk3); clear tk3 tk; (with_reducible refine (errN F b P a2 0 0 h0.out _ q3.out).mono ?_); rintro r2 w2 ⟨rfl, rfl⟩)
    | (go_at_call 145; (with_reducible refine (rblobN F b P a2 0 256 _ V.length q3.out hl H256 V a3 0 HVV.out rfl).mono ?_); rintro r5 w5 ⟨A5, c5, rfl, hg5⟩; have T5 := S3.out.keepG hg5.grown (by omega); have R5 := RR3.out.keepG hg5.grown (by omega); have hz5 := T5.lt; have d0 := T5.c0; have d1 := T5.c1; have d2 := T5.c2; have f0 := T5.fz 0; have f1 := T5.fz 1; have f2 := T5.fz 2; have S5 := Lib.hid (T5.set2 (.slice A5 V.length c5)); have g0 := S5.out.c0; have g1 := S5.out.c1; have g2 := S5.out.c2; have RR5 := Lib.hid (R5.keep (w' := w5.setCell ⟨w.heap.size + 1, 2, none⟩ (.slice A5 V.length c5)) ((setCell_grown w5 (w.heap.size + 1) 2 (.slice A5 V.length c5)).block _ R5.lt (fun e9 => by have := Option.some.inj e9; omega))); have k0 := RR5.out.c0; have k1 := RR5.out.c1; have k2 := RR5.out.c2; have l0 := RR5.out.fz 0; have l1 := RR5.out.fz 1; have l2 := RR5.out.fz 2; have q5 := Lib.hid (hg5.rd.setBox (g := w.heap.size + 1) (j := 2) (v := .slice A5 V.length c5) HN1.out); have W5 := Lib.hid ((W3.out.grown hg5.grown HFb.out).box (g := w.heap.size + 1) (j := 2) (v := .slice A5 V.length c5) (by omega)); have n5 : Hid ((Value.slice A5 V.length c5).ownBlock ≠ some (w.heap.size + 1)) := Lib.hid (fun e9 => by have := (hg5.own.at_base _ e9).1; have := S3.out.lt; omega); have n50 : Hid ((Value.slice A5 V.length c5).ownBlock ≠ some w.heap.size) := Lib.hid (fun e9 => by have := (hg5.own.at_base _ e9).1; have := S3.out.lt; omega); have O5 := Lib.hid (hg5.own.keep (setCell_grown w5 (w.heap.size + 1) 2 (.slice A5 V.length c5)) (.inr n5.out)); have O35 := Lib.hid ((O3.out.keep (row := some b) hg5.grown (.inr (fun e9 => by have := (hg3.own.at_base _ e9).1; have := S1.out.lt; omega))).keep (setCell_grown w5 (w.heap.size + 1) 2 (.slice A5 V.length c5)) (.inr n3.out)); have KV5 : Hid (sepV (.slice A3 K.length c3) (.slice A5 V.length c5)) := Lib.hid (sepV.of_lt (fun k hk => (hg3.own.at_base k hk).2) (fun k hk => by have := (hg5.own.at_base k hk).1; rw [show (w3.setCell ⟨w.heap.size + 1, 1, none⟩ (.slice A3 K.length c3)).heap.size = w3.heap.size by simp [World.setCell]] at this; exact this)); have tk5 := trivial)
    | (go_at_call 106; (have tk := tk5); clear tk5 tk; (with_reducible refine (errN F b P a3 0 0 h0.out _ q5.out).mono ?_); rintro r2 w2 ⟨rfl, rfl⟩)
    | (go_at_call 105; (with_reducible refine (refuse_ok _).mono ?_); rintro r2 w2 ⟨rfl, rfl⟩))
  have RR := RR5.out.put (.int .u8 1) (.slice A3 K.length c3) (.slice A5 V.length c5)
  exact bodyPost_ret (results_en rfl _ _ w.heap.size _ _ _ rfl RR.c0 RR.c1 RR.c2) rfl ⟨⟨A3, c3, A5, c5⟩, rfl, (O35.out.mono (by have := S1.out.lt; omega)).put3 n30.out _ _ _, (O5.out.mono (by have := S3.out.lt; omega)).put3 n50.out _ _ _, ((q5.out.setBox HN0.out).setBox HN0.out).setBox HN0.out, ((W5.out.box (Nat.le_refl _)).box (Nat.le_refl _)).box (Nat.le_refl _), KV5.out⟩
set_option maxHeartbeats 400000 in
set_option maxRecDepth 100000 in
theorem take_del (hr : Rd w F b P at_ 0) (hF : ∀ k, F k → k < w.heap.size) (hl : P.length ≤ 140737488355328) (K : List UInt8) (a1 a2 : Nat) (hn : numS P at_ 0 1 = (2, a1, 0)) (hk : blobS P a1 0 64 = (K, a2, 0)) :
    Calls Tryz.prog 107 #[.pointer (some ⟨b, 0, none⟩)] w fun r w' => ∃ a : EnA, r = .returned (.agg #[.int .u8 (2 : Nat), .slice a.KA K.length a.kc, .slice a.VA ([] : List UInt8).length a.vc]) ∧ OB w' w.heap.size 5 (.slice a.KA K.length a.kc) K ∧ OB w' w.heap.size 5 (.slice a.VA ([] : List UInt8).length a.vc) ([] : List UInt8) ∧ Rd w' F b P a2 0 ∧ TkW w w' F ∧ sepV (.slice a.KA K.length a.kc) (.slice a.VA ([] : List UInt8).length a.vc) := by
  have HB := Lib.hid (belowA (below_alloc1 (Below.refl w.heap.size w) (Nat.le_refl _) (.cells #[.int .u8 0, .slice none 0 0, .slice none 0 0] 72)) (.cells #[.int .u8 0, .slice none 0 0, .slice none 0 0] 72))
  have HT := Lib.hid (Trio.fresh (w.alloc (.cells #[.int .u8 0, .slice none 0 0, .slice none 0 0] 72)) (w.heap.size + 1) (asz _ _) (.int .u8 0) (.slice none 0 0) (.slice none 0 0) 72)
  have HR := Lib.hid ((Trio.fresh w w.heap.size rfl (.int .u8 0) (.slice none 0 0) (.slice none 0 0) 72).new (below_alloc1 (Below.refl _ _) (Nat.le_refl _) (.cells #[.int .u8 0, .slice none 0 0, .slice none 0 0] 72)))
  have HRd := Lib.hid (hr.new HB.out)
  have HFb := Lib.hid hr.lo
  have HW := Lib.hid (TkW.mk (Step.of_below HB.out F))
  have hbl := hr.bLt
  have HN1 : Hid (¬ F (w.heap.size + 1)) := Lib.hid (fun e9 => by have := hF _ e9; omega)
  have HN0 : Hid (¬ F w.heap.size) := Lib.hid (fun e9 => by have := hF _ e9; omega)
  have hl2 : P.length ≤ 9223372036854775807 := by omega
  have H64 : (64 : Int) ≤ 9223372036854775807 := by decide
  have H256 : (256 : Int) ≤ 9223372036854775807 := by decide
  have h0 := Lib.hid (show (0 : Int) = ((0 : Nat) : Int) from rfl)
  have HV1 := Lib.hid (show (2 : Int) = ((numS P at_ 0 1).1 : Nat) by simp [hn])
  have HV2 := Lib.hid (show (numS P at_ 0 1).2.1 = a1 by rw [hn])
  have HV3 := Lib.hid (show (numS P at_ 0 1).2.2 = 0 by rw [hn])
  clear hn
  have HK := Lib.hid hk
  clear hk
  go_enter Tryz.func107, Tryz.ntmps107
  go_wp2_with (first
    | (go_at_call 95; go_loud (with_reducible refine (ru8N F b P at_ 0 2 a1 0 HV1.out HV2.out HV3.out _ HRd.out hl2).mono ?_); rintro r1 w1 ⟨rfl, hr1, hg1⟩; have T1 := HT.out.keepG hg1 (by omega); have R1 := HR.out.keepG hg1 (by omega); have hz1 := T1.lt; have d0 := T1.c0; have d1 := T1.c1; have d2 := T1.c2; have f0 := T1.fz 0; have f1 := T1.fz 1; have f2 := T1.fz 2; have S1 := Lib.hid (T1.set0 (.int .u8 2)); have g0 := S1.out.c0; have g1 := S1.out.c1; have g2 := S1.out.c2; have RR1 := Lib.hid (R1.keep (w' := w1.setCell ⟨w.heap.size + 1, 0, none⟩ (.int .u8 2)) ((setCell_grown w1 (w.heap.size + 1) 0 (.int .u8 2)).block _ R1.lt (fun e9 => by have := Option.some.inj e9; omega))); have q1 := Lib.hid (hr1.setBox (g := w.heap.size + 1) (j := 0) (v := .int .u8 2) HN1.out); have W1 := Lib.hid ((HW.out.grown hg1 HFb.out).box (g := w.heap.size + 1) (j := 0) (v := .int .u8 2) (by omega)); have tk1 := trivial)
    | (go_at_call 106; (have tk := tk1); clear tk1 tk; (with_reducible refine (errN F b P a1 0 0 h0.out _ q1.out).mono ?_); rintro r2 w2 ⟨rfl, rfl⟩)
    | (go_at_call 145; (with_reducible refine (rblobN F b P a1 0 64 _ K.length q1.out hl H64 K a2 0 HK.out rfl).mono ?_); rintro r3 w3 ⟨A3, c3, rfl, hg3⟩; have T3 := S1.out.keepG hg3.grown (by omega); have R3 := RR1.out.keepG hg3.grown (by omega); have hz3 := T3.lt; have d0 := T3.c0; have d1 := T3.c1; have d2 := T3.c2; have f0 := T3.fz 0; have f1 := T3.fz 1; have f2 := T3.fz 2; have S3 := Lib.hid (T3.set1 (.slice A3 K.length c3)); have g0 := S3.out.c0; have g1 := S3.out.c1; have g2 := S3.out.c2; have RR3 := Lib.hid (R3.keep (w' := w3.setCell ⟨w.heap.size + 1, 1, none⟩ (.slice A3 K.length c3)) ((setCell_grown w3 (w.heap.size + 1) 1 (.slice A3 K.length c3)).block _ R3.lt (fun e9 => by have := Option.some.inj e9; omega))); have k0 := RR3.out.c0; have k1 := RR3.out.c1; have k2 := RR3.out.c2; have l0 := RR3.out.fz 0; have l1 := RR3.out.fz 1; have l2 := RR3.out.fz 2; have q3 := Lib.hid (hg3.rd.setBox (g := w.heap.size + 1) (j := 1) (v := .slice A3 K.length c3) HN1.out); have W3 := Lib.hid ((W1.out.grown hg3.grown HFb.out).box (g := w.heap.size + 1) (j := 1) (v := .slice A3 K.length c3) (by omega)); have n3 : Hid ((Value.slice A3 K.length c3).ownBlock ≠ some (w.heap.size + 1)) := Lib.hid (fun e9 => by have := (hg3.own.at_base _ e9).1; have := S1.out.lt; omega); have n30 : Hid ((Value.slice A3 K.length c3).ownBlock ≠ some w.heap.size) := Lib.hid (fun e9 => by have := (hg3.own.at_base _ e9).1; have := S1.out.lt; omega); have O3 := Lib.hid (hg3.own.keep (setCell_grown w3 (w.heap.size + 1) 1 (.slice A3 K.length c3)) (.inr n3.out)); have tk3 := trivial)
    | (go_at_call 106; (have tk := tk3); clear tk3 tk; (with_reducible refine (errN F b P a2 0 0 h0.out _ q3.out).mono ?_); rintro r2 w2 ⟨rfl, rfl⟩)
    | (go_at_call 105; (with_reducible refine (refuse_ok _).mono ?_); rintro r2 w2 ⟨rfl, rfl⟩))
  have RR := RR3.out.put (.int .u8 2) (.slice A3 K.length c3) (.slice none 0 0)
  exact bodyPost_ret (results_en rfl _ _ w.heap.size _ _ _ rfl RR.c0 RR.c1 RR.c2) rfl ⟨⟨A3, c3, none, 0⟩, rfl, (O3.out.mono (by have := S1.out.lt; omega)).put3 n30.out _ _ _, OB.nil _ _ _, ((q3.out.setBox HN0.out).setBox HN0.out).setBox HN0.out, ((W3.out.box (Nat.le_refl _)).box (Nat.le_refl _)).box (Nat.le_refl _), (Classical.em _).imp id id⟩

end
theorem etake_ok (F : Nat → Prop) (b : Nat) (P : List UInt8) (at_ : Nat) (w : World) (hr : Rd w F b P at_ 0) (hF : ∀ k, F k → k < w.heap.size) (hl : P.length ≤ 140737488355328) (t : Ent) (ht : entS P at_ = t) (h0 : t.e = 0) :
    Calls Tryz.prog 107 #[.pointer (some ⟨b, 0, none⟩)] w fun r w' => ∃ a : EnA, r = .returned (.agg #[.int .u8 t.v.k, .slice a.KA t.v.K.length a.kc, .slice a.VA t.v.V.length a.vc]) ∧ OB w' w.heap.size 5 (.slice a.KA t.v.K.length a.kc) t.v.K ∧ OB w' w.heap.size 5 (.slice a.VA t.v.V.length a.vc) t.v.V ∧ Rd w' F b P t.at_ 0 ∧ TkW w w' F ∧ sepV (.slice a.KA t.v.K.length a.kc) (.slice a.VA t.v.V.length a.vc) := by
  unfold entS at ht
  split at ht
  · rename_i h1; subst ht; exact absurd h0 h1
  · rename_i h1
    split at ht
    · subst ht; exact absurd h0 (by decide)
    · rename_i h2
      split at ht
      · rename_i h3; subst ht; exact absurd h0 h3
      · rename_i h3
        generalize hn : numS P at_ 0 1 = n at *
        obtain ⟨kv, a1, e1⟩ := n
        simp only at h1 h2 h3 ht
        obtain rfl : e1 = 0 := by omega
        generalize hk : blobS P a1 0 64 = k at *
        obtain ⟨K, a2, e2⟩ := k
        simp only at h3 ht
        obtain rfl : e2 = 0 := by omega
        split at ht
        · rename_i h4
          subst h4
          generalize hv : blobS P a2 0 256 = v at *
          obtain ⟨V, a3, e3⟩ := v
          simp only at ht
          split at ht
          · rename_i h5; subst ht; exact absurd h0 h5
          · rename_i h5
            obtain rfl : e3 = 0 := by omega
            subst ht
            exact take_put F b P at_ w hr hF hl K V a1 a2 a3 hn hk hv
        · rename_i h4
          obtain rfl : kv = 2 := by omega
          subst ht
          exact take_del F b P at_ w hr hF hl K a1 a2 hn hk
theorem etake_no (F : Nat → Prop) (b : Nat) (P : List UInt8) (at_ : Nat) (w : World) (hr : Rd w F b P at_ 0) (hF : ∀ k, F k → k < w.heap.size) (hl : P.length ≤ 140737488355328) (t : Ent) (ht : entS P at_ = t) (h0 : t.e ≠ 0) :
    Calls Tryz.prog 107 #[.pointer (some ⟨b, 0, none⟩)] w fun r w' => r = .panicked [{ v := refV t.e, recovered := false }] ∧ TkW w w' F := by
  unfold entS at ht
  generalize hn : numS P at_ 0 1 = n at *
  obtain ⟨kv, a1, e1⟩ := n
  simp only at ht
  split at ht
  · rename_i h1
    subst ht
    exact take_n1 F b P at_ w hr hF hl kv a1 e1 hn h1
  · rename_i h1
    obtain rfl : e1 = 0 := by omega
    split at ht
    · rename_i h2
      subst ht
      exact take_n2 F b P at_ w hr hF hl kv a1 hn h2.1 h2.2
    · rename_i h2
      generalize hk : blobS P a1 0 64 = k at *
      obtain ⟨K, a2, e2⟩ := k
      simp only at ht
      split at ht
      · rename_i h3
        subst ht
        rcases (by omega : kv = 1 ∨ kv = 2) with rfl | rfl
        · exact take_n3a F b P at_ w hr hF hl K a1 a2 e2 hn hk h3
        · exact take_n3b F b P at_ w hr hF hl K a1 a2 e2 hn hk h3
      · rename_i h3
        obtain rfl : e2 = 0 := by omega
        split at ht
        · rename_i h4
          subst h4
          generalize hv : blobS P a2 0 256 = v at *
          obtain ⟨V, a3, e3⟩ := v
          simp only at ht
          split at ht
          · rename_i h5
            subst ht
            exact take_n4 F b P at_ w hr hF hl K V a1 a2 a3 e3 hn hk hv h5
          · subst ht; exact absurd rfl h0
        · subst ht; exact absurd rfl h0
end Go.Proofs.YtpmnnnbkbcpgjaaGreatDoor

/- The walk of entry.Decode. -/
namespace Go.Proofs.YtpmnnnbkbcpgjaaGreatDoor
open Go.RowKit

/-- one cell of a box -/
structure One (w : World) (b : Nat) (x : Value) : Prop where
  c0 : w.cell? ⟨b, 0, none⟩ = some x
  fz : ∀ j, w.frozen? ⟨b, j, none⟩ = false
theorem One.fresh (w : World) (k : Nat) (hk : w.heap.size = k) (x : Value) (t : TypeId) : One (w.alloc (.cells #[x] t)) k x := by
  subst hk
  have e := heap_alloc_new w (.cells #[x] t)
  exact ⟨by rw [cell_of_row _ _ _ _ _ _ e]; rfl, fun _ => frozen_of_row _ _ _ #[x] t e⟩
theorem One.keep {w w' : World} {b : Nat} {x : Value} (h : One w b x) (hb : w'.heap[b]? = w.heap[b]?) : One w' b x :=
  ⟨(World.cell?_of_block (a := ⟨b, 0, none⟩) hb).trans h.c0, fun j => (World.frozen?_of_block (a := ⟨b, j, none⟩) hb).trans (h.fz j)⟩
theorem One.lt {w : World} {b : Nat} {x : Value} (h : One w b x) : b < w.heap.size := World.block_lt_of_cell? w _ h.c0
theorem One.new {w w' : World} {b : Nat} {x : Value} (h : One w b x) (B : Below w.heap.size w w') : One w' b x := h.keep (B.block b h.lt)
theorem One.other {w : World} {b g j : Nat} {x u : Value} (h : One w b x) (hne : b ≠ g) : One (w.setCell ⟨g, j, none⟩ u) b x := h.keep ((setCell_grown w g j u).block b h.lt (fun e => hne (Option.some.inj e)))
theorem One.set {w : World} {b : Nat} {x : Value} (h : One w b x) (u : Value) : One (w.setCell ⟨b, 0, none⟩ u) b u := ⟨World.cell?_setCell_same _ _ _ h.c0, fun j => by rw [World.frozen?_setCell]; exact h.fz j⟩
theorem One.other3 {w : World} {b g : Nat} {x u v t : Value} (h : One w b x) (hne : b ≠ g) : One (((w.setCell ⟨g, 0, none⟩ u).setCell ⟨g, 1, none⟩ v).setCell ⟨g, 2, none⟩ t) b x := ((h.other hne).other hne).other hne
/-- what Decode answers: the fault and the entry -/
def decF (P : List UInt8) : Nat × En := if (entS P 0).e ≠ 0 then ((entS P 0).e, ⟨0, [], []⟩) else if doneE P (entS P 0).at_ 0 ≠ 0 then (doneE P (entS P 0).at_ 0, ⟨0, [], []⟩) else (0, (entS P 0).v)
theorem results_dec {fn : Func} {p q : Tmp} (h : fn.results = #[.cell p 72, .cell q 25]) (tmps : Array Value) (w : World) (b c : Nat) (x y z u : Value) (hp : tmps.getD p undef = .pointer (some ⟨b, 0, none⟩)) (hq : tmps.getD q undef = .pointer (some ⟨c, 0, none⟩)) (ht : Trio w b x y z) (hu : w.cell? ⟨c, 0, none⟩ = some u) :
    (results fn tmps).run Tryz.prog w = .ok (.tuple #[.agg #[x, y, z], u]) w := by
  have hp' : tmps[p]?.getD undef = .pointer (some ⟨b, 0, none⟩) := by simpa using hp
  have hq' : tmps[q]?.getD undef = .pointer (some ⟨c, 0, none⟩) := by simpa using hq
  have hl := run_loadVar_mid (P := Tryz.prog) w b 0 72 [x, y, z] _ (fun j v hj => by
    match j, hj with
    | 0, hj => simp at hj; subst hj; simpa using ht.c0
    | 1, hj => simp at hj; subst hj; simpa using ht.c1
    | 2, hj => simp at hj; subst hj; simpa using ht.c2
    | j + 3, hj => simp at hj) Tryz.underlying72 rfl (by kernel_rfl)
  have hl2 : (loadVar 25 ⟨c, 0, none⟩).run Tryz.prog w = .ok u w := by
    simp [loadVar, go_sem, hu]
  simp [results, h, hp', hq', asAddr, hl, hl2]
end Go.Proofs.YtpmnnnbkbcpgjaaGreatDoor

/- Lists of entries: of the call's own, and as they read. -/
namespace Go.Proofs.YtpmnnnbkbcpgjaaGreatDoor
open Go.RowKit

abbrev EnX := En × EnA
def cellsE (x : EnX) : List Value := [.int .u8 x.1.k, .slice x.2.KA x.1.K.length x.2.kc, .slice x.2.VA x.1.V.length x.2.vc]
/-- a list of entries, as it reads -/
structure Ents (w : World) (A : Option Addr) (es : List EnX) : Prop where
  out : ∀ i (h : i < es.length), ∃ a, A = some a ∧ w.cell? (a.add (i * 3)) = some (.int .u8 es[i].1.k) ∧ w.cell? (a.add (i * 3 + 1)) = some (.slice es[i].2.KA es[i].1.K.length es[i].2.kc) ∧ w.cell? (a.add (i * 3 + 2)) = some (.slice es[i].2.VA es[i].1.V.length es[i].2.vc)
  ok : ∀ x ∈ es, EnOk w x.1 x.2
theorem Ents.new {w w' : World} {A : Option Addr} {es : List EnX} (h : Ents w A es) (hb : Below w.heap.size w w') : Ents w' A es := by
  refine ⟨fun i hi => ?_, fun o ho => (h.ok o ho).new hb⟩
  obtain ⟨a, ha, h0, h1, h2⟩ := h.out i hi
  have hc : ∀ j u, w.cell? (a.add j) = some u → w'.cell? (a.add j) = some u := fun j u hu => (hb.cell (World.block_lt_of_cell? w _ hu)).trans hu
  exact ⟨a, ha, hc _ _ h0, hc _ _ h1, hc _ _ h2⟩
theorem add_nextE (a : Addr) (k j : Nat) (hj : 0 < j) : (⟨(a.add k).block, (a.add k).off + j, none⟩ : Addr) = a.add (k + j) := by
  unfold Addr.add
  split <;> split <;> simp_all <;> omega
theorem Ents.at_ {w : World} {A : Option Addr} {es : List EnX} (h : Ents w A es) (i : Nat) (hi : i < es.length) : ∃ a e x, A = some a ∧ es[i]? = some (e, x) ∧ (e, x) ∈ es ∧ EnOk w e x ∧ w.cell? (a.add (i * 3)) = some (.int .u8 e.k) ∧ w.cell? ⟨(a.add (i * 3)).block, (a.add (i * 3)).off + 1, none⟩ = some (.slice x.KA e.K.length x.kc) ∧ w.cell? ⟨(a.add (i * 3)).block, (a.add (i * 3)).off + 2, none⟩ = some (.slice x.VA e.V.length x.vc) := by
  obtain ⟨a, ha, h0, h1, h2⟩ := h.out i hi
  refine ⟨a, es[i].1, es[i].2, ha, List.getElem?_eq_getElem hi, List.getElem_mem hi, h.ok _ (List.getElem_mem hi), h0, ?_, ?_⟩
  · rw [add_nextE _ _ _ (by decide)]; exact h1
  · rw [add_nextE _ _ _ (by decide)]; exact h2
def ensOf (es : List EnX) : List En := es.map (·.1)
/-- where an entry's lists may stand -/
structure FarE (lo : Nat) (v : Value) (x : EnX) : Prop where
  K : ∀ a, x.2.KA = some a → 0 < x.1.K.length → lo ≤ a.block ∧ v.ownBlock ≠ some a.block
  V : ∀ a, x.2.VA = some a → 0 < x.1.V.length → lo ≤ a.block ∧ v.ownBlock ≠ some a.block
structure EL (w : World) (base : Nat) (v : Value) (n : Nat) (es : List EnX) : Prop where
  row : w.ownsRow base 72 3 v n (es.flatMap cellsE)
  len : n = es.length
  ok : ∀ x ∈ es, EnOk w x.1 x.2
  far : ∀ x ∈ es, FarE base v x
theorem EL.nil (w : World) (base : Nat) : EL w base (.slice none 0 0) 0 [] := ⟨World.ownsRow_nil w base _ 3, rfl, fun x hx => by simp at hx, fun x hx => by simp at hx⟩
theorem own_keep {w w' : World} {base e size n : Nat} {v : Value} {xs : List Value} (h : w.ownsRow base e size v n xs) (hk : ∀ k, base ≤ k → k < w.heap.size → w'.heap[k]? = w.heap[k]?) : w'.ownsRow base e size v n xs := by
  refine ⟨h.1, ?_⟩
  rcases h.2 with h1 | ⟨g, cap, cur, rfl, hb, hh, r⟩
  · exact .inl h1
  · exact .inr ⟨g, cap, cur, rfl, hb, (hk g hb (Array.getElem?_eq_some_iff.1 hh).1).trans hh, r⟩
theorem own_formE {w : World} {base e size n : Nat} {v : Value} {xs : List Value} (h : w.ownsRow base e size v n xs) : ∃ A c, v = .slice A n c := by
  rcases h.2 with ⟨rfl, hn⟩ | ⟨g, cap, cur, rfl, _⟩
  · exact ⟨none, 0, by rw [hn]⟩
  · exact ⟨_, _, rfl⟩
/-- what stands from base on stands -/
theorem EL.keep {w w' : World} {base n : Nat} {v : Value} {es : List EnX} (h : EL w base v n es) (hk : ∀ k, base ≤ k → k < w.heap.size → w'.heap[k]? = w.heap[k]?) : EL w' base v n es :=
  ⟨own_keep h.row hk, h.len, fun x hx => ⟨(h.ok x hx).k, (h.ok x hx).K.keep fun a e hp => hk _ ((h.far x hx).K a e hp).1 ((h.ok x hx).K.old.out a e hp), (h.ok x hx).V.keep fun a e hp => hk _ ((h.far x hx).V a e hp).1 ((h.ok x hx).V.old.out a e hp)⟩, h.far⟩
theorem EL.new {w w' : World} {base n : Nat} {v : Value} {es : List EnX} (h : EL w base v n es) (hb : Below w.heap.size w w') : EL w' base v n es := h.keep fun k _ hk => hb.block k hk
theorem EL.stepE {w w' : World} {F F' : Nat → Prop} {base n : Nat} {v : Value} {es : List EnX} (h : EL w base v n es) (hs : Step w w' F F') (hF : ∀ k, F k → k < base) : EL w' base v n es := h.keep fun k h1 h2 => hs.block k h2 (fun e => by have := hF k e; omega)
theorem EL.setLow {w : World} {base n g j : Nat} {v u : Value} {es : List EnX} (h : EL w base v n es) (hg : g < base) : EL (w.setCell ⟨g, j, none⟩ u) base v n es := h.keep fun k h1 h2 => (setCell_grown w g j u).block k h2 (fun e => by have := Option.some.inj e; omega)
theorem EL.lt {w : World} {base n : Nat} {v : Value} {es : List EnX} (h : EL w base v n es) : ∀ k, v.ownBlock = some k → base ≤ k ∧ k < w.heap.size := h.row.lt
theorem cellsE_length (es : List EnX) : (es.flatMap cellsE).length = es.length * 3 := by
  induction es with
  | nil => rfl
  | cons f fs ih => simp [List.flatMap_cons, cellsE, ih]; omega
theorem cellsE_get (es : List EnX) (i : Nat) (x : EnX) (h : es[i]? = some x) : (es.flatMap cellsE)[i * 3]? = some (.int .u8 x.1.k) ∧ (es.flatMap cellsE)[i * 3 + 1]? = some (.slice x.2.KA x.1.K.length x.2.kc) ∧ (es.flatMap cellsE)[i * 3 + 2]? = some (.slice x.2.VA x.1.V.length x.2.vc) := by
  induction es generalizing i with
  | nil => simp at h
  | cons g fs ih =>
    rw [List.flatMap_cons]
    cases i with
    | zero => simp at h; subst h; simp [cellsE]
    | succ i =>
      have := ih i (by simpa using h)
      rw [show (i + 1) * 3 = i * 3 + 3 by omega, show i * 3 + 3 + 1 = (i * 3 + 1) + 3 by omega, show i * 3 + 3 + 2 = (i * 3 + 2) + 3 by omega]
      rw [List.getElem?_append_right (by simp [cellsE]), List.getElem?_append_right (by simp [cellsE]), List.getElem?_append_right (by simp [cellsE])]
      simpa [cellsE] using this
/-- a list of the call's own, as it reads -/
theorem EL.reads {w : World} {base n c : Nat} {A : Option Addr} {es : List EnX} (h : EL w base (.slice A n c) n es) : Ents w A es := by
  refine ⟨fun i hi => ?_, h.ok⟩
  obtain ⟨c0, c1, c2⟩ := cellsE_get es i es[i] (List.getElem?_eq_getElem hi)
  rcases h.row.2 with ⟨h1, hn⟩ | ⟨g, cap, cur, e, hb, hh, _⟩
  · have := h.len
    omega
  · injection e with e1 e2 e3
    subst e1
    exact ⟨_, rfl, h.row.cells (g := g) rfl _ _ c0, h.row.cells (g := g) rfl _ _ c1, h.row.cells (g := g) rfl _ _ c2⟩
structure EnT (P : Program) (t e : TypeId) : Prop where
  sl : P.underlying t = some (.slice e)
  info : (P.info? e).map (fun i => (i.zero, i.size, i.bytes)) = some (some (.agg #[.int .u8 0, .slice none 0 0, .slice none 0 0]), 3, 56)
theorem ent : EnT Tryz.prog 33 72 := ⟨Tryz.underlying33, by kernel_rfl⟩
theorem run_appendE {P : Program} {t : TypeId} {w : World} (et : EnT P t 72) (ty : TypeId) (base : Nat) (v : Value) (n : Nat) (es : List EnX) (ho : EL w base v n es) (x : EnX) (ad : Addr) (h0 : w.cell? (ad.add 0) = some (.int .u8 x.1.k)) (h1 : w.cell? (ad.add 1) = some (.slice x.2.KA x.1.K.length x.2.kc)) (h2 : w.cell? (ad.add 2) = some (.slice x.2.VA x.1.V.length x.2.vc)) (hx : EnOk w x.1 x.2) (hf : FarE base v x) (hlen : (n + 1) * 56 ≤ 140737488355328) (hbase : base ≤ w.heap.size) :
    ∃ A' c' w', (Builtin.append_ #[t, t] ty #[v, .slice (some ad) 1 1]).run P w = .ok (.slice A' (n + 1) c') w' ∧ EL w' base (.slice A' (n + 1) c') (n + 1) (es ++ [x]) ∧ w.grownBy w' v.ownBlock := by
  obtain ⟨i, hi, hz, hsz, hb⟩ := info_parts et.info
  obtain ⟨v', w', hr, g1, g2, _, g4⟩ := Go.run_append_own_at (P := P) (w := w) base t ty 72 i _ 3 56 et.sl hi hz hsz hb rfl (by decide) v n (es.flatMap cellsE) ho.row ad 1 1 (cellsE x) rfl (fun j u hu => by
    match j, hu with
    | 0, hu => obtain rfl := Option.some.inj hu; exact h0
    | 1, hu => obtain rfl := Option.some.inj hu; exact h1
    | 2, hu => obtain rfl := Option.some.inj hu; exact h2
    | j + 3, hu => simp [cellsE] at hu) (fun u hu => by
    simp [cellsE] at hu
    rcases hu with rfl | rfl | rfl <;> rfl) (by unfold maxLen; omega) hlen hbase
  obtain ⟨A', c', rfl⟩ := own_formE g1
  have hall : ∀ y ∈ es ++ [x], EnOk w y.1 y.2 ∧ FarE base v y := fun y hy => by
    rcases List.mem_append.1 hy with hy | hy
    · exact ⟨ho.ok y hy, ho.far y hy⟩
    · obtain rfl := List.mem_singleton.1 hy
      exact ⟨hx, hf⟩
  have hstep : ∀ k, k < w.heap.size → v.ownBlock ≠ some k → (Value.slice A' (n + 1) c').ownBlock ≠ some k := fun k hk hv => by
    rcases g4 with e | e
    · rw [e]; exact hv
    · rw [e]; intro e2; have := Option.some.inj e2; omega
  refine ⟨A', c', w', hr, ⟨by simpa using g1, by rw [ho.len]; simp, fun y hy => ?_, fun y hy => ?_⟩, g2⟩
  · obtain ⟨k1, k2⟩ := hall y hy
    exact ⟨k1.k, k1.K.keep fun a e hp => g2.block _ (k1.K.old.out a e hp) (fun e2 => (k2.K a e hp).2 e2.symm), k1.V.keep fun a e hp => g2.block _ (k1.V.old.out a e hp) (fun e2 => (k2.V a e hp).2 e2.symm)⟩
  · obtain ⟨k1, k2⟩ := hall y hy
    exact ⟨fun a e hp => ⟨(k2.K a e hp).1, hstep _ (k1.K.old.out a e hp) (k2.K a e hp).2⟩, fun a e hp => ⟨(k2.V a e hp).1, hstep _ (k1.V.old.out a e hp) (k2.V a e hp).2⟩⟩
theorem op_appendE {P : Program} {t : TypeId} {w : World} {o : Oper} {a : Act} {K : Act → World → Prop} {Q : Exit → Act → World → Prop} (et : EnT P t 72) (s x : Operand) (hop : o.op = .call { callee := .builtin .append, args := #[s, x], argTypes := #[t, t] })
    (base : Nat) (v : Value) (n : Nat) (es : List EnX) (hs : a.eval s = v) (ho : EL w base v n es) (y : EnX) (ad : Addr) (hx : a.eval x = .slice (some ad) 1 1) (h0 : w.cell? (ad.add 0) = some (.int .u8 y.1.k)) (h1 : w.cell? (ad.add 1) = some (.slice y.2.KA y.1.K.length y.2.kc)) (h2 : w.cell? (ad.add 2) = some (.slice y.2.VA y.1.V.length y.2.vc)) (hy : EnOk w y.1 y.2) (hf : FarE base v y) (hlen : (n + 1) * 56 ≤ 140737488355328) (hbase : base ≤ w.heap.size)
    (h : ∀ A' c' w', EL w' base (.slice A' (n + 1) c') (n + 1) (es ++ [y]) → w.grownBy w' v.ownBlock → K (a.put o.dst (.slice A' (n + 1) c')) w') : o.wp P a w K Q := by
  obtain ⟨A', c', w', hr, g1, g2⟩ := run_appendE et o.type base v n es ho y ad h0 h1 h2 hy hf hlen hbase
  unfold Oper.wp execOp
  simp only [hop, resolve, invoke, builtin, Sem.run_bind, Sem.run_pure, Result.andThen_ok, List.map_toArray, List.map_cons, List.map_nil, hs, hx, hr]
  exact h A' c' w' g1 g2
theorem wp_appendE {P : Program} {t : TypeId} {w : World} {ops : Array Oper} {rest : List Oper} {o : Oper} {a : Act} {Q : Exit → Act → World → Prop} (et : EnT P t 72) (hg : o.guard = none) (s x : Operand) (hop : o.op = .call { callee := .builtin .append, args := #[s, x], argTypes := #[t, t] })
    (base : Nat) (v : Value) (n : Nat) (es : List EnX) (hs : a.eval s = v) (ho : EL w base v n es) (y : EnX) (ad : Addr) (hx : a.eval x = .slice (some ad) 1 1) (h0 : w.cell? (ad.add 0) = some (.int .u8 y.1.k)) (h1 : w.cell? (ad.add 1) = some (.slice y.2.KA y.1.K.length y.2.kc)) (h2 : w.cell? (ad.add 2) = some (.slice y.2.VA y.1.V.length y.2.vc)) (hy : EnOk w y.1 y.2) (hf : FarE base v y) (hlen : (n + 1) * 56 ≤ 140737488355328) (hbase : base ≤ w.heap.size)
    (h : ∀ A' c' w', EL w' base (.slice A' (n + 1) c') (n + 1) (es ++ [y]) → w.grownBy w' v.ownBlock → wpList P ops Q rest (a.put o.dst (.slice A' (n + 1) c')) w') : wpList P ops Q (o :: rest) a w :=
  wpList_plain hg fun _ hK => op_appendE et s x hop base v n es hs ho y ad hx h0 h1 h2 hy hf hlen hbase fun A' c' w' h1 h2 => hK _ _ (h A' c' w' h1 h2)
theorem step_appendE {P : Program} {t : TypeId} {w : World} {ops : Array Oper} {o : Oper} {a : Act} {K : Act → World → Prop} {Q : Exit → Act → World → Prop} {E : Prop} (et : EnT P t 72) (hg : o.guard = none) (s x : Operand) (hop : o.op = .call { callee := .builtin .append, args := #[s, x], argTypes := #[t, t] })
    (base : Nat) (v : Value) (n : Nat) (es : List EnX) (hs : a.eval s = v) (ho : EL w base v n es) (y : EnX) (ad : Addr) (hx : a.eval x = .slice (some ad) 1 1) (h0 : w.cell? (ad.add 0) = some (.int .u8 y.1.k)) (h1 : w.cell? (ad.add 1) = some (.slice y.2.KA y.1.K.length y.2.kc)) (h2 : w.cell? (ad.add 2) = some (.slice y.2.VA y.1.V.length y.2.vc)) (hy : EnOk w y.1 y.2) (hf : FarE base v y) (hlen : (n + 1) * 56 ≤ 140737488355328) (hbase : base ≤ w.heap.size)
    (h : ∀ A' c' w', EL w' base (.slice A' (n + 1) c') (n + 1) (es ++ [y]) → w.grownBy w' v.ownBlock → K (a.put o.dst (.slice A' (n + 1) c')) w') : if Region.wanted o (yielded ops a.tmps) = true then Oper.wp P o a w K Q else E := by
  have hw : Region.wanted o (yielded ops a.tmps) = true := by simp [Region.wanted, hg]
  rw [if_pos hw]
  exact op_appendE et s x hop base v n es hs ho y ad hx h0 h1 h2 hy hf hlen hbase h
end Go.Proofs.YtpmnnnbkbcpgjaaGreatDoor

/- Lists of entries of the call's own whose lists of bytes lie apart from one another. -/
namespace Go.Proofs.YtpmnnnbkbcpgjaaGreatDoor
open Go.RowKit

theorem sepV.symm {u v : Value} (h : sepV u v) : sepV v u := by
  unfold sepV at *
  rcases h with h | h
  · by_cases hv : v.ownBlock = none
    · exact .inl hv
    · exact .inr (by rw [h]; exact hv)
  · exact .inr (Ne.symm h)
theorem sepV.ne {u v : Value} (h : sepV u v) {k : Nat} (hu : u.ownBlock = some k) : v.ownBlock ≠ some k := fun e => by
  rcases h with h | h
  · rw [h] at hu; cases hu
  · exact h (hu.trans e.symm)
theorem OB.same {w w' : World} {base e : Nat} {v : Value} {p : List UInt8} (h : OB w base e v p) (hk : ∀ k, v.ownBlock = some k → w'.heap[k]? = w.heap[k]?) : OB w' base e v p := by
  refine ⟨h.out.1, ?_⟩
  rcases h.out.2 with h1 | ⟨b, cap, cur, e1, hb, hh, r⟩
  · exact .inl h1
  · exact .inr ⟨b, cap, cur, e1, hb, (hk b (by rw [e1]; rfl)).trans hh, r⟩
theorem EL.monoK {w : World} {base base' n : Nat} {v : Value} {es : List EnX} (h : EL w base v n es) (hb : base' ≤ base) : EL w base' v n es := ⟨Joins.ownsRow_le h.row hb, h.len, h.ok, fun x hx => ⟨fun a e hp => ⟨Nat.le_trans hb ((h.far x hx).K a e hp).1, ((h.far x hx).K a e hp).2⟩, fun a e hp => ⟨Nat.le_trans hb ((h.far x hx).V a e hp).1, ((h.far x hx).V a e hp).2⟩⟩⟩
def kV (x : EnX) : Value := .slice x.2.KA x.1.K.length x.2.kc
def vV (x : EnX) : Value := .slice x.2.VA x.1.V.length x.2.vc
def listV (es : List EnX) : List Value := es.flatMap fun x => [kV x, vV x]
theorem listV_append (es ds : List EnX) : listV (es ++ ds) = listV es ++ listV ds := List.flatMap_append
theorem mem_listV {es : List EnX} {u : Value} (h : u ∈ listV es) : ∃ x ∈ es, u = kV x ∨ u = vV x := by
  obtain ⟨x, hx, hu⟩ := List.mem_flatMap.1 h
  exact ⟨x, hx, by simpa using hu⟩
theorem mem_kV {es : List EnX} {x : EnX} (h : x ∈ es) : kV x ∈ listV es := List.mem_flatMap.2 ⟨x, h, by simp⟩
theorem mem_vV {es : List EnX} {x : EnX} (h : x ∈ es) : vV x ∈ listV es := List.mem_flatMap.2 ⟨x, h, by simp⟩
/-- the entries' lists are the call's own, in blocks from base on, no two in one -/
structure SepE (w : World) (base : Nat) (es : List EnX) : Prop where
  K : ∀ x ∈ es, OB w base 5 (kV x) x.1.K
  V : ∀ x ∈ es, OB w base 5 (vV x) x.1.V
  apart : (listV es).Pairwise sepV
theorem SepE.nil (w : World) (base : Nat) : SepE w base [] := ⟨fun x hx => absurd hx (by simp), fun x hx => absurd hx (by simp), List.Pairwise.nil⟩
theorem SepE.mono {w : World} {base base' : Nat} {es : List EnX} (h : SepE w base es) (hb : base' ≤ base) : SepE w base' es := ⟨fun x hx => (h.K x hx).mono hb, fun x hx => (h.V x hx).mono hb, h.apart⟩
theorem SepE.lt {w : World} {base : Nat} {es : List EnX} (h : SepE w base es) : ∀ u ∈ listV es, ∀ k, u.ownBlock = some k → base ≤ k ∧ k < w.heap.size := fun u hu k hk => by
  obtain ⟨x, hx, rfl | rfl⟩ := mem_listV hu
  · exact (h.K x hx).at_base k hk
  · exact (h.V x hx).at_base k hk
theorem SepE.keep {w w' : World} {base : Nat} {es : List EnX} (h : SepE w base es) (hk : ∀ u ∈ listV es, ∀ k, u.ownBlock = some k → w'.heap[k]? = w.heap[k]?) : SepE w' base es :=
  ⟨fun x hx => (h.K x hx).same (hk _ (mem_kV hx)), fun x hx => (h.V x hx).same (hk _ (mem_vV hx)), h.apart⟩
/-- and apart from a row -/
structure SepR (w : World) (base : Nat) (v : Value) (es : List EnX) : Prop where
  sep : SepE w base es
  far : ∀ u ∈ listV es, sepV u v
theorem SepR.nil (w : World) (base : Nat) (v : Value) : SepR w base v [] := ⟨SepE.nil w base, fun u hu => absurd hu (by simp [listV])⟩
theorem SepR.keep {w w' : World} {base : Nat} {v : Value} {es : List EnX} (h : SepR w base v es) (hk : ∀ k, base ≤ k → k < w.heap.size → v.ownBlock ≠ some k → w'.heap[k]? = w.heap[k]?) : SepR w' base v es :=
  ⟨h.sep.keep fun u hu k e => hk k (h.sep.lt u hu k e).1 (h.sep.lt u hu k e).2 ((h.far u hu).ne e), h.far⟩
theorem SepR.new {w w' : World} {base : Nat} {v : Value} {es : List EnX} (h : SepR w base v es) (hb : Below w.heap.size w w') : SepR w' base v es := h.keep fun k _ hk _ => hb.block k hk
theorem SepR.stepE {w w' : World} {F F' : Nat → Prop} {base : Nat} {v : Value} {es : List EnX} (h : SepR w base v es) (hs : Step w w' F F') (hF : ∀ k, F k → k < base) : SepR w' base v es := h.keep fun k h1 h2 _ => hs.block k h2 (fun e => by have := hF k e; omega)
theorem SepR.setLow {w : World} {base g j : Nat} {v u : Value} {es : List EnX} (h : SepR w base v es) (hg : g < base) : SepR (w.setCell ⟨g, j, none⟩ u) base v es := h.keep fun k h1 h2 _ => (setCell_grown w g j u).block k h2 (fun e => by have := Option.some.inj e; omega)
theorem SepR.grown {w w' : World} {base : Nat} {v v' : Value} {es : List EnX} (h : SepR w base v es) (hg : w.grownBy w' v.ownBlock) (hv : v'.ownBlock = v.ownBlock ∨ v'.ownBlock = some w.heap.size) : SepR w' base v' es := by
  refine ⟨(h.keep (w' := w') fun k _ hk hne => hg.block k hk (fun e => hne e.symm)).sep, fun u hu => ?_⟩
  rcases hv with e | e
  · exact (h.far u hu).imp id fun h9 => by rw [e]; exact h9
  · exact sepV.of_lt (fun k hk => (h.sep.lt u hu k hk).2) fun k hk => by rw [e] at hk; exact Nat.le_of_eq (Option.some.inj hk)
theorem SepR.push {w : World} {base m : Nat} {v : Value} {es : List EnX} {x : EnX} (h : SepR w base v es) (hlt : ∀ u ∈ listV es, ∀ k, u.ownBlock = some k → k < m) (hv : ∀ k, v.ownBlock = some k → k < m) (hK : OB w m 5 (kV x) x.1.K) (hV : OB w m 5 (vV x) x.1.V) (hb : base ≤ m) (hkv : sepV (kV x) (vV x)) : SepR w base v (es ++ [x]) := by
  have hkl : ∀ k, (kV x).ownBlock = some k → m ≤ k := fun k e => (hK.at_base k e).1
  have hvl : ∀ k, (vV x).ownBlock = some k → m ≤ k := fun k e => (hV.at_base k e).1
  have e1 : listV (es ++ [x]) = listV es ++ [kV x, vV x] := by rw [listV_append]; rfl
  refine ⟨⟨fun y hy => ?_, fun y hy => ?_, ?_⟩, fun u hu => ?_⟩
  · rcases List.mem_append.1 hy with hy | hy
    · exact h.sep.K y hy
    · obtain rfl := List.mem_singleton.1 hy; exact hK.mono hb
  · rcases List.mem_append.1 hy with hy | hy
    · exact h.sep.V y hy
    · obtain rfl := List.mem_singleton.1 hy; exact hV.mono hb
  · rw [e1]
    refine List.pairwise_append.2 ⟨h.sep.apart, by simp [hkv], fun a ha b hb => ?_⟩
    simp only [List.mem_cons, List.not_mem_nil, or_false] at hb
    rcases hb with rfl | rfl
    · exact sepV.of_lt (hlt a ha) hkl
    · exact sepV.of_lt (hlt a ha) hvl
  · rw [e1] at hu
    rcases List.mem_append.1 hu with hu | hu
    · exact h.far u hu
    · simp only [List.mem_cons, List.not_mem_nil, or_false] at hu
      rcases hu with rfl | rfl
      · exact (sepV.of_lt hv hkl).symm
      · exact (sepV.of_lt hv hvl).symm
theorem run_appendEK {P : Program} {t : TypeId} {w : World} (et : EnT P t 72) (ty : TypeId) (base : Nat) (v : Value) (n : Nat) (es : List EnX) (ho : EL w base v n es) (x : EnX) (ad : Addr) (h0 : w.cell? (ad.add 0) = some (.int .u8 x.1.k)) (h1 : w.cell? (ad.add 1) = some (.slice x.2.KA x.1.K.length x.2.kc)) (h2 : w.cell? (ad.add 2) = some (.slice x.2.VA x.1.V.length x.2.vc)) (hx : EnOk w x.1 x.2) (hf : FarE base v x) (hlen : (n + 1) * 56 ≤ 140737488355328) (hbase : base ≤ w.heap.size) :
    ∃ A' c' w', (Builtin.append_ #[t, t] ty #[v, .slice (some ad) 1 1]).run P w = .ok (.slice A' (n + 1) c') w' ∧ EL w' base (.slice A' (n + 1) c') (n + 1) (es ++ [x]) ∧ w.grownBy w' v.ownBlock ∧ ((Value.slice A' (n + 1) c').ownBlock = v.ownBlock ∨ (Value.slice A' (n + 1) c').ownBlock = some w.heap.size) := by
  obtain ⟨i, hi, hz, hsz, hb⟩ := info_parts et.info
  obtain ⟨v', w', hr, g1, g2, _, g4⟩ := Go.run_append_own_at (P := P) (w := w) base t ty 72 i _ 3 56 et.sl hi hz hsz hb rfl (by decide) v n (es.flatMap cellsE) ho.row ad 1 1 (cellsE x) rfl (fun j u hu => by
    match j, hu with
    | 0, hu => obtain rfl := Option.some.inj hu; exact h0
    | 1, hu => obtain rfl := Option.some.inj hu; exact h1
    | 2, hu => obtain rfl := Option.some.inj hu; exact h2
    | j + 3, hu => simp [cellsE] at hu) (fun u hu => by
    simp [cellsE] at hu
    rcases hu with rfl | rfl | rfl <;> rfl) (by unfold maxLen; omega) hlen hbase
  obtain ⟨A', c', rfl⟩ := own_formE g1
  have hall : ∀ y ∈ es ++ [x], EnOk w y.1 y.2 ∧ FarE base v y := fun y hy => by
    rcases List.mem_append.1 hy with hy | hy
    · exact ⟨ho.ok y hy, ho.far y hy⟩
    · obtain rfl := List.mem_singleton.1 hy
      exact ⟨hx, hf⟩
  have hstep : ∀ k, k < w.heap.size → v.ownBlock ≠ some k → (Value.slice A' (n + 1) c').ownBlock ≠ some k := fun k hk hv => by
    rcases g4 with e | e
    · rw [e]; exact hv
    · rw [e]; intro e2; have := Option.some.inj e2; omega
  refine ⟨A', c', w', hr, ⟨by simpa using g1, by rw [ho.len]; simp, fun y hy => ?_, fun y hy => ?_⟩, g2, g4⟩
  · obtain ⟨k1, k2⟩ := hall y hy
    exact ⟨k1.k, k1.K.keep fun a e hp => g2.block _ (k1.K.old.out a e hp) (fun e2 => (k2.K a e hp).2 e2.symm), k1.V.keep fun a e hp => g2.block _ (k1.V.old.out a e hp) (fun e2 => (k2.V a e hp).2 e2.symm)⟩
  · obtain ⟨k1, k2⟩ := hall y hy
    exact ⟨fun a e hp => ⟨(k2.K a e hp).1, hstep _ (k1.K.old.out a e hp) (k2.K a e hp).2⟩, fun a e hp => ⟨(k2.V a e hp).1, hstep _ (k1.V.old.out a e hp) (k2.V a e hp).2⟩⟩
theorem op_appendEK {P : Program} {t : TypeId} {w : World} {o : Oper} {a : Act} {K : Act → World → Prop} {Q : Exit → Act → World → Prop} (et : EnT P t 72) (s x : Operand) (hop : o.op = .call { callee := .builtin .append, args := #[s, x], argTypes := #[t, t] })
    (base : Nat) (v : Value) (n : Nat) (es : List EnX) (hs : a.eval s = v) (ho : EL w base v n es) (y : EnX) (ad : Addr) (hx : a.eval x = .slice (some ad) 1 1) (h0 : w.cell? (ad.add 0) = some (.int .u8 y.1.k)) (h1 : w.cell? (ad.add 1) = some (.slice y.2.KA y.1.K.length y.2.kc)) (h2 : w.cell? (ad.add 2) = some (.slice y.2.VA y.1.V.length y.2.vc)) (hy : EnOk w y.1 y.2) (hf : FarE base v y) (hlen : (n + 1) * 56 ≤ 140737488355328) (hbase : base ≤ w.heap.size)
    (h : ∀ A' c' w', EL w' base (.slice A' (n + 1) c') (n + 1) (es ++ [y]) → w.grownBy w' v.ownBlock → ((Value.slice A' (n + 1) c').ownBlock = v.ownBlock ∨ (Value.slice A' (n + 1) c').ownBlock = some w.heap.size) → K (a.put o.dst (.slice A' (n + 1) c')) w') : o.wp P a w K Q := by
  obtain ⟨A', c', w', hr, g1, g2, g4⟩ := run_appendEK et o.type base v n es ho y ad h0 h1 h2 hy hf hlen hbase
  unfold Oper.wp execOp
  simp only [hop, resolve, invoke, builtin, Sem.run_bind, Sem.run_pure, Result.andThen_ok, List.map_toArray, List.map_cons, List.map_nil, hs, hx, hr]
  exact h A' c' w' g1 g2 g4
theorem wp_appendEK {P : Program} {t : TypeId} {w : World} {ops : Array Oper} {rest : List Oper} {o : Oper} {a : Act} {Q : Exit → Act → World → Prop} (et : EnT P t 72) (hg : o.guard = none) (s x : Operand) (hop : o.op = .call { callee := .builtin .append, args := #[s, x], argTypes := #[t, t] })
    (base : Nat) (v : Value) (n : Nat) (es : List EnX) (hs : a.eval s = v) (ho : EL w base v n es) (y : EnX) (ad : Addr) (hx : a.eval x = .slice (some ad) 1 1) (h0 : w.cell? (ad.add 0) = some (.int .u8 y.1.k)) (h1 : w.cell? (ad.add 1) = some (.slice y.2.KA y.1.K.length y.2.kc)) (h2 : w.cell? (ad.add 2) = some (.slice y.2.VA y.1.V.length y.2.vc)) (hy : EnOk w y.1 y.2) (hf : FarE base v y) (hlen : (n + 1) * 56 ≤ 140737488355328) (hbase : base ≤ w.heap.size)
    (h : ∀ A' c' w', EL w' base (.slice A' (n + 1) c') (n + 1) (es ++ [y]) → w.grownBy w' v.ownBlock → ((Value.slice A' (n + 1) c').ownBlock = v.ownBlock ∨ (Value.slice A' (n + 1) c').ownBlock = some w.heap.size) → wpList P ops Q rest (a.put o.dst (.slice A' (n + 1) c')) w') : wpList P ops Q (o :: rest) a w :=
  wpList_plain hg fun _ hK => op_appendEK et s x hop base v n es hs ho y ad hx h0 h1 h2 hy hf hlen hbase fun A' c' w' h1 h2 h3 => hK _ _ (h A' c' w' h1 h2 h3)
theorem step_appendEK {P : Program} {t : TypeId} {w : World} {ops : Array Oper} {o : Oper} {a : Act} {K : Act → World → Prop} {Q : Exit → Act → World → Prop} {E : Prop} (et : EnT P t 72) (hg : o.guard = none) (s x : Operand) (hop : o.op = .call { callee := .builtin .append, args := #[s, x], argTypes := #[t, t] })
    (base : Nat) (v : Value) (n : Nat) (es : List EnX) (hs : a.eval s = v) (ho : EL w base v n es) (y : EnX) (ad : Addr) (hx : a.eval x = .slice (some ad) 1 1) (h0 : w.cell? (ad.add 0) = some (.int .u8 y.1.k)) (h1 : w.cell? (ad.add 1) = some (.slice y.2.KA y.1.K.length y.2.kc)) (h2 : w.cell? (ad.add 2) = some (.slice y.2.VA y.1.V.length y.2.vc)) (hy : EnOk w y.1 y.2) (hf : FarE base v y) (hlen : (n + 1) * 56 ≤ 140737488355328) (hbase : base ≤ w.heap.size)
    (h : ∀ A' c' w', EL w' base (.slice A' (n + 1) c') (n + 1) (es ++ [y]) → w.grownBy w' v.ownBlock → ((Value.slice A' (n + 1) c').ownBlock = v.ownBlock ∨ (Value.slice A' (n + 1) c').ownBlock = some w.heap.size) → K (a.put o.dst (.slice A' (n + 1) c')) w') : if Region.wanted o (yielded ops a.tmps) = true then Oper.wp P o a w K Q else E := by
  have hw : Region.wanted o (yielded ops a.tmps) = true := by simp [Region.wanted, hg]
  rw [if_pos hw]
  exact op_appendEK et s x hop base v n es hs ho y ad hx h0 h1 h2 hy hf hlen hbase h
end Go.Proofs.YtpmnnnbkbcpgjaaGreatDoor

/- The walk of entry.DecodeBatch. -/
namespace Go.Proofs.YtpmnnnbkbcpgjaaGreatDoor
open Go.RowKit
open WireMath (numS beN rawS blobS uvarS grpL uvarL wideL)
attribute [local go_sem ↓] Go.wp_at_zero Go.wp_at_succ

structure EntL where
  e : Nat
  l : List En
  at_ : Nat
def entsS (P : List UInt8) : Nat → Nat → EntL
  | 0, at_ => ⟨0, [], at_⟩
  | n + 1, at_ => if (entS P at_).e ≠ 0 then ⟨(entS P at_).e, [], 0⟩ else ⟨(entsS P n (entS P at_).at_).e, (entS P at_).v :: (entsS P n (entS P at_).at_).l, (entsS P n (entS P at_).at_).at_⟩
/-- what DecodeBatch answers -/
structure Bat where
  e : Nat
  f : Nat
  l : List En
def batNo (e : Nat) : Bat := ⟨e, 0, []⟩
def batF (P : List UInt8) (f n a2 : Nat) : Bat :=
  if (entsS P n a2).e ≠ 0 then batNo (entsS P n a2).e
  else if doneE P (entsS P n a2).at_ 0 ≠ 0 then batNo (doneE P (entsS P n a2).at_ 0)
  else ⟨0, f, (entsS P n a2).l⟩
def decB (P : List UInt8) : Bat :=
  if (uvarS P 0 0).2.2 ≠ 0 then batNo (uvarS P 0 0).2.2
  else if (uvarS P (uvarS P 0 0).2.1 0).2.2 ≠ 0 then batNo (uvarS P (uvarS P 0 0).2.1 0).2.2
  else if 64 < (uvarS P (uvarS P 0 0).2.1 0).1 then batNo 2
  else if (uvarS P (uvarS P 0 0).2.1 0).1 = 0 ∨ 18446744073709551616 ≤ (uvarS P 0 0).1 + (uvarS P (uvarS P 0 0).2.1 0).1 then batNo 3
  else batF P (uvarS P 0 0).1 (uvarS P (uvarS P 0 0).2.1 0).1 (uvarS P (uvarS P 0 0).2.1 0).2.1
/-- two cells of a box -/
structure Duo (w : World) (b : Nat) (x y : Value) : Prop where
  c0 : w.cell? ⟨b, 0, none⟩ = some x
  c1 : w.cell? ⟨b, 1, none⟩ = some y
  fz : ∀ j, w.frozen? ⟨b, j, none⟩ = false
theorem Duo.fresh (w : World) (k : Nat) (hk : w.heap.size = k) (x y : Value) (t : TypeId) : Duo (w.alloc (.cells #[x, y] t)) k x y := by
  subst hk
  have e := heap_alloc_new w (.cells #[x, y] t)
  exact ⟨by rw [cell_of_row _ _ _ _ _ _ e]; rfl, by rw [cell_of_row _ _ _ _ _ _ e]; rfl, fun _ => frozen_of_row _ _ _ #[x, y] t e⟩
theorem Duo.keep {w w' : World} {b : Nat} {x y : Value} (h : Duo w b x y) (hb : w'.heap[b]? = w.heap[b]?) : Duo w' b x y :=
  ⟨(World.cell?_of_block (a := ⟨b, 0, none⟩) hb).trans h.c0, (World.cell?_of_block (a := ⟨b, 1, none⟩) hb).trans h.c1, fun j => (World.frozen?_of_block (a := ⟨b, j, none⟩) hb).trans (h.fz j)⟩
theorem Duo.lt {w : World} {b : Nat} {x y : Value} (h : Duo w b x y) : b < w.heap.size := World.block_lt_of_cell? w _ h.c0
theorem Duo.new {w w' : World} {b : Nat} {x y : Value} (h : Duo w b x y) (B : Below w.heap.size w w') : Duo w' b x y := h.keep (B.block b h.lt)
theorem Duo.stepE {w w' : World} {F F' : Nat → Prop} {b : Nat} {x y : Value} (h : Duo w b x y) (hs : Step w w' F F') (hf : ¬ F b) : Duo w' b x y := h.keep (hs.block b h.lt hf)
theorem Duo.grown {w w' : World} {b c : Nat} {x y : Value} (h : Duo w b x y) (hg : w.grownBy w' (some c)) (hb : b ≠ c) : Duo w' b x y := h.keep (hg.block b h.lt (fun e => hb (Option.some.inj e)))
theorem Duo.other {w : World} {b g j : Nat} {x y u : Value} (h : Duo w b x y) (hne : b ≠ g) : Duo (w.setCell ⟨g, j, none⟩ u) b x y := h.keep ((setCell_grown w g j u).block b h.lt (fun e => hne (Option.some.inj e)))
theorem Duo.set0 {w : World} {b : Nat} {x y : Value} (h : Duo w b x y) (u : Value) : Duo (w.setCell ⟨b, 0, none⟩ u) b u y :=
  ⟨World.cell?_setCell_same _ _ _ h.c0, (World.cell?_setCell_other _ _ _ _ (by simp)).trans h.c1, fun j => by rw [World.frozen?_setCell]; exact h.fz j⟩
theorem Duo.set1 {w : World} {b : Nat} {x y : Value} (h : Duo w b x y) (u : Value) : Duo (w.setCell ⟨b, 1, none⟩ u) b x u :=
  ⟨(World.cell?_setCell_other _ _ _ _ (by simp)).trans h.c0, World.cell?_setCell_same _ _ _ h.c1, fun j => by rw [World.frozen?_setCell]; exact h.fz j⟩
theorem One.grown {w w' : World} {b c : Nat} {x : Value} (h : One w b x) (hg : w.grownBy w' (some c)) (hb : b ≠ c) : One w' b x := h.keep (hg.block b h.lt (fun e => hb (Option.some.inj e)))
theorem One.stepE {w w' : World} {F F' : Nat → Prop} {b : Nat} {x : Value} (h : One w b x) (hs : Step w w' F F') (hf : ¬ F b) : One w' b x := h.keep (hs.block b h.lt hf)
theorem results_batch {fn : Func} {p q : Tmp} (h : fn.results = #[.cell p 35, .cell q 25]) (tmps : Array Value) (w : World) (b c : Nat) (x y u : Value) (hp : tmps.getD p undef = .pointer (some ⟨b, 0, none⟩)) (hq : tmps.getD q undef = .pointer (some ⟨c, 0, none⟩)) (ht : Duo w b x y) (hu : w.cell? ⟨c, 0, none⟩ = some u) :
    (results fn tmps).run Tryz.prog w = .ok (.tuple #[.agg #[x, y], u]) w := by
  have hp' : tmps[p]?.getD undef = .pointer (some ⟨b, 0, none⟩) := by simpa using hp
  have hq' : tmps[q]?.getD undef = .pointer (some ⟨c, 0, none⟩) := by simpa using hq
  have hl := run_loadVar_mid (P := Tryz.prog) w b 0 35 [x, y] _ (fun j v hj => by
    match j, hj with
    | 0, hj => simp at hj; subst hj; simpa using ht.c0
    | 1, hj => simp at hj; subst hj; simpa using ht.c1
    | j + 2, hj => simp at hj) Tryz.underlying35 rfl (by kernel_rfl)
  have hl2 : (loadVar 25 ⟨c, 0, none⟩).run Tryz.prog w = .ok u w := by
    simp [loadVar, go_sem, hu]
  simp [results, h, hp', hq', asAddr, hl, hl2]
theorem undoB_ok (pe pa : Addr) (u : FrameMode) (w : World) (hc : w.cell? pe = some (.int .i64 0)) :
    CallsD Tryz.prog 102 #[.pointer (some pe), .pointer (some pa)] u w fun r u' w' => u' = u ∧ (r = .returned (.tuple #[]) ∧ w' = w) := by
  go_enter_d Tryz.func102, Tryz.ntmps102
  go_wp2
  go_end0
  exact ⟨rfl, rfl⟩
theorem undoB_no (pe : Addr) (g : Nat) (e : Int) (he : e ≠ 0) (x y : Value) (u : FrameMode) (w : World) (hc : w.cell? pe = some (.int .i64 e)) (hT : Duo w g x y) :
    CallsD Tryz.prog 102 #[.pointer (some pe), .pointer (some ⟨g, 0, none⟩)] u w fun r u' w' => u' = u ∧ (r = .returned (.tuple #[]) ∧ w' = (w.setCell ⟨g, 0, none⟩ (.int .u64 0)).setCell ⟨g, 1, none⟩ (.slice none 0 0)) := by
  have hb : (e != 0) = true := by rw [bne_iff_ne]; exact he
  have h0 := hT.c0
  have h1 := hT.c1
  have f0 := hT.fz 0
  have f1 := hT.fz 1
  clear he
  go_enter_d Tryz.func102, Tryz.ntmps102
  go_wp2
  go_end0
  exact ⟨rfl, rfl⟩
theorem efits_calls (f n : Nat) (F : Int) (hF : F = f) (hf : f ≤ 18446744073709551615) (hn : n ≤ 9223372036854775807) (w : World) (r : Bool) (hr : decide (f + n < 18446744073709551616) = r) :
    Calls Tryz.prog 84 #[.int .u64 F, .int .i64 n] w fun e w' => e = .returned (.bool r) ∧ w = w' := by
  subst hF
  have hc : IntKind.u64.wrap (n : Int) = n := u64_nat n hn
  go_enter Tryz.func84, Tryz.ntmps84
  go_wp2
  go_ret
  refine ⟨ret_bool ?_, rfl⟩
  subst hr
  have e1 : IntKind.u64.wrap ((f : Int) + n) = ((f + n) % 18446744073709551616 : Nat) := by rw [IntKind.wrap_u64]; omega
  first
    | rw [e1]
    | skip
  simp only [decide_eq_decide]
  omega
theorem ruvarW (F : Nat → Prop) (b : Nat) (P : List UInt8) (at_ : Nat) (v : Int) (n a2 e2 : Nat) (hv : v = n) (hU : uvarS P at_ 0 = (n, a2, e2)) (w : World) (hr : Rd w F b P at_ 0) (hl : P.length ≤ 9223372036854775807) :
    Calls Tryz.prog 104 #[.pointer (some ⟨b, 0, none⟩)] w fun e' w' => e' = .returned (.int .u64 v) ∧ Rd w' F b P a2 e2 ∧ w.grownBy w' (some b) := by
  have := ruvar_calls F b P at_ 0 w hr hl
  rw [hU] at this
  subst hv
  exact this
/-- a batch as it is answered -/
structure BatAt (w w' : World) (A : Option Addr) (n : Nat) (l : List En) : Prop where
  out : ∃ es, ensOf es = l ∧ n = es.length ∧ Ents w' A es
  below : Below w.heap.size w w'
/-- a batch's answer, and that its lists lie apart -/
structure BatK (w w' : World) (A : Option Addr) (n : Nat) (l : List En) : Prop where
  out : ∃ es c1, ensOf es = l ∧ n = es.length ∧ EL w' w.heap.size (.slice A es.length c1) es.length es ∧ SepE w' w.heap.size es
  below : Below w.heap.size w w'
theorem BatK.at {w w' : World} {A : Option Addr} {n : Nat} {l : List En} (h : BatK w w' A n l) : BatAt w w' A n l := ⟨let ⟨es, _, h1, h2, h3, _⟩ := h.out; ⟨es, h1, h2, h3.reads⟩, h.below⟩
theorem uvarS_lt (P : List UInt8) (at_ e : Nat) : (uvarS P at_ e).1 ≤ 18446744073709551615 := by
  unfold WireMath.uvarS
  split
  · simp
  · have := WireMath.grpL_lt (P.drop at_); simp only; omega
set_option maxHeartbeats 400000 in
set_option maxRecDepth 100000 in
theorem batch_n1 (A : Option Addr) (P : List UInt8) (n c : Nat) (w : World) (hp : RB w A c P) (hn : n = P.length) (hl : P.length ≤ 140737488355328) (f a1 e1 : Nat) (hU1 : uvarS P 0 0 = (f, a1, e1)) (he : e1 ≠ 0) :
    Calls Tryz.prog 58 #[.slice A n c] w fun r w' => r = .returned (.tuple #[.agg #[.int .u64 0, .slice none 0 0], .int .i64 e1]) ∧ Below w.heap.size w w' := by
  subst hn
  have hmf : ∀ (fn : Fn) (first cap : Array Value) (w : World), (Instr.makeFunc fn first cap).run Tryz.prog w = .ok (.func fn first cap) w := fun _ _ _ _ => rfl
  have HB := Lib.hid (belowA (below_alloc1 (Below.refl w.heap.size w) (Nat.le_refl _) (.cells #[.int .u64 0, .slice none 0 0] 35)) (.cells #[.int .i64 0] 25))
  have HT := Lib.hid ((Duo.fresh w w.heap.size rfl (.int .u64 0) (.slice none 0 0) 35).new (below_alloc1 (Below.refl _ _) (Nat.le_refl _) (.cells #[.int .i64 0] 25)))
  have HO := Lib.hid (One.fresh (w.alloc (.cells #[.int .u64 0, .slice none 0 0] 35)) (w.heap.size + 1) (asz _ _) (.int .i64 0) 25)
  have hl2 : P.length ≤ 9223372036854775807 := by omega
  have h0 := Lib.hid (show (0 : Int) = ((0 : Nat) : Int) from rfl)
  have HU1 := Lib.hid hU1
  have HE : Hid ((e1 : Int) ≠ 0) := Lib.hid (by omega)
  clear hU1 he
  go_enter_defers Tryz.func58, Tryz.ntmps58
  go_wp2_with (first
    | (go_at_call 94; go_loud (with_reducible refine (newReader_own A P c _ _ (hp.new HB.out) rfl hl).mono ?_); rintro e1 w1 ⟨b, F, rfl, hr1, hf1, hb1⟩; have T1 := HT.out.new hb1; have O1 := HO.out.new hb1; have B1 := Lib.hid (below_then HB.out hb1); have HF0 : Hid (∀ k, F k → w.heap.size + 1 + 1 ≤ k) := Lib.hid (fun k hk => Nat.le_trans (Nat.le_of_eq (asz2 w _ _).symm) (hf1.lo k hk)); have hbA : w.heap.size + 1 + 1 ≤ b := HF0.out _ hr1.lo; have HN0 : Hid (¬ F w.heap.size) := Lib.hid (fun e9 => by have := HF0.out _ e9; omega))
    | (go_at_call 104; (with_reducible refine (ruvarW F b P 0 _ f a1 e1 rfl HU1.out _ hr1 hl2).mono ?_); rintro e2 w2 ⟨rfl, hr2, hg2⟩; have T2 := T1.grown hg2 (by omega); have O2 := O1.grown hg2 (by omega); have hz2 := T2.lt; have d0 := T2.c0; have d1 := T2.c1; have f0 := T2.fz 0; have f1 := T2.fz 1; have S2 := T2.set0 (.int .u64 f); have Q2 := O2.other (g := w.heap.size) (j := 0) (u := .int .u64 f) (by omega); have q2 := Lib.hid (hr2.setBox (j := 0) (v := .int .u64 f) HN0.out); have B2 := Lib.hid (belowS (g := w.heap.size) (j := 0) (below_reader B1.out hg2 (by omega)) (Nat.le_refl _) (.int .u64 f)); have g0 := S2.c0; have g1 := S2.c1; have tk2 := trivial)
    | (go_at_call 106; (have tk := tk2); clear tk2 tk; (with_reducible refine (errN F b P a1 e1 e1 rfl _ q2.out).mono ?_); rintro r2 w4 ⟨rfl, rfl⟩)
    | (go_at_call 105; (with_reducible refine (refuse_no e1 HE.out _).mono ?_); rintro r2 w4 ⟨rfl, rfl⟩))
  have T5 := S2
  have O5 := Q2
  have BB := B2
  have O6 := (O5.new (below_alloc1 (Below.refl _ _) (Nat.le_refl _) (.cells #[.int .i64 e1] 198))).set (.int .i64 e1)
  have T6 := (T5.new (below_alloc1 (Below.refl _ _) (Nat.le_refl _) (.cells #[.int .i64 e1] 198))).other (g := w.heap.size + 1) (j := 0) (u := .int .i64 e1) (by omega)
  refine leaves_cons (f := 103) (args := #[.pointer (some ⟨w.heap.size + 1, 0, none⟩)]) (by simp) (by simp [go_sem]) ?_
  refine (caught_panic _ _ _ _ O5.c0 (O5.fz 0)).mono ?_
  rintro r6 u6 w6 ⟨rfl, rfl, rfl⟩
  refine leaves_cons (f := 102) (args := #[.pointer (some ⟨w.heap.size + 1, 0, none⟩), .pointer (some ⟨w.heap.size, 0, none⟩)]) (by simp [settle]) (by simp [go_sem]) ?_
  refine (undoB_no _ w.heap.size _ HE.out _ _ _ _ O6.c0 T6).mono ?_
  rintro r7 u7 w7 ⟨rfl, rfl, rfl⟩
  show Leaves _ _ _ _ [] .returning _
  have T7 := (T6.set0 (.int .u64 0)).set1 (.slice none 0 0)
  have O7 := (O6.other (g := w.heap.size) (j := 0) (u := .int .u64 0) (by omega)).other (g := w.heap.size) (j := 1) (u := .slice none 0 0) (by omega)
  refine ⟨_, results_batch rfl _ _ w.heap.size (w.heap.size + 1) _ _ _ rfl rfl T7 O7.c0, rfl, ?_⟩
  exact ((((BB.out.alloc BB.out.size (.cells #[.int .i64 e1] 198)).setCell (by show w.heap.size ≤ w.heap.size + 1; omega) _)).setCell (Nat.le_refl _) _).setCell (Nat.le_refl _) _
set_option maxHeartbeats 400000 in
set_option maxRecDepth 100000 in
theorem batch_n2 (A : Option Addr) (P : List UInt8) (n c : Nat) (w : World) (hp : RB w A c P) (hn : n = P.length) (hl : P.length ≤ 140737488355328) (f a1 m a2 e2 : Nat) (hU1 : uvarS P 0 0 = (f, a1, 0)) (hU2 : uvarS P a1 0 = (m, a2, e2)) (he : e2 ≠ 0) :
    Calls Tryz.prog 58 #[.slice A n c] w fun r w' => r = .returned (.tuple #[.agg #[.int .u64 0, .slice none 0 0], .int .i64 e2]) ∧ Below w.heap.size w w' := by
  subst hn
  have hmf : ∀ (fn : Fn) (first cap : Array Value) (w : World), (Instr.makeFunc fn first cap).run Tryz.prog w = .ok (.func fn first cap) w := fun _ _ _ _ => rfl
  have HB := Lib.hid (belowA (below_alloc1 (Below.refl w.heap.size w) (Nat.le_refl _) (.cells #[.int .u64 0, .slice none 0 0] 35)) (.cells #[.int .i64 0] 25))
  have HT := Lib.hid ((Duo.fresh w w.heap.size rfl (.int .u64 0) (.slice none 0 0) 35).new (below_alloc1 (Below.refl _ _) (Nat.le_refl _) (.cells #[.int .i64 0] 25)))
  have HO := Lib.hid (One.fresh (w.alloc (.cells #[.int .u64 0, .slice none 0 0] 35)) (w.heap.size + 1) (asz _ _) (.int .i64 0) 25)
  have hl2 : P.length ≤ 9223372036854775807 := by omega
  have h0 := Lib.hid (show (0 : Int) = ((0 : Nat) : Int) from rfl)
  have HU1 := Lib.hid hU1
  have HU2 := Lib.hid hU2
  have HE : Hid ((e2 : Int) ≠ 0) := Lib.hid (by omega)
  clear hU1 hU2 he
  go_enter_defers Tryz.func58, Tryz.ntmps58
  go_wp2_with (first
    | (go_at_call 94; go_loud (with_reducible refine (newReader_own A P c _ _ (hp.new HB.out) rfl hl).mono ?_); rintro e1 w1 ⟨b, F, rfl, hr1, hf1, hb1⟩; have T1 := HT.out.new hb1; have O1 := HO.out.new hb1; have B1 := Lib.hid (below_then HB.out hb1); have HF0 : Hid (∀ k, F k → w.heap.size + 1 + 1 ≤ k) := Lib.hid (fun k hk => Nat.le_trans (Nat.le_of_eq (asz2 w _ _).symm) (hf1.lo k hk)); have hbA : w.heap.size + 1 + 1 ≤ b := HF0.out _ hr1.lo; have HN0 : Hid (¬ F w.heap.size) := Lib.hid (fun e9 => by have := HF0.out _ e9; omega))
    | (go_at_call 104; (with_reducible refine (ruvarW F b P 0 _ f a1 0 rfl HU1.out _ hr1 hl2).mono ?_); rintro e2 w2 ⟨rfl, hr2, hg2⟩; have T2 := T1.grown hg2 (by omega); have O2 := O1.grown hg2 (by omega); have hz2 := T2.lt; have d0 := T2.c0; have d1 := T2.c1; have f0 := T2.fz 0; have f1 := T2.fz 1; have S2 := T2.set0 (.int .u64 f); have Q2 := O2.other (g := w.heap.size) (j := 0) (u := .int .u64 f) (by omega); have q2 := Lib.hid (hr2.setBox (j := 0) (v := .int .u64 f) HN0.out); have B2 := Lib.hid (belowS (g := w.heap.size) (j := 0) (below_reader B1.out hg2 (by omega)) (Nat.le_refl _) (.int .u64 f)); have g0 := S2.c0; have g1 := S2.c1; have tk2 := trivial)
    | (go_at_call 106; (have tk := tk2); clear tk2 tk; (with_reducible refine (errN F b P a1 0 0 h0.out _ q2.out).mono ?_); rintro r2 w4 ⟨rfl, rfl⟩)
    | (go_at_call 104; (with_reducible refine (ruvarW F b P a1 _ m a2 e2 rfl HU2.out _ q2.out hl2).mono ?_); rintro e3 w3 ⟨rfl, hr3, hg3⟩; have T3 := S2.grown hg3 (by omega); have O3 := Q2.grown hg3 (by omega); have hz3 := T3.lt; have z0 := T3.c0; have z1 := T3.c1; have q3 := Lib.hid hr3; have B3 := Lib.hid (below_reader B2.out hg3 (by omega)); have tk3 := trivial)
    | (go_at_call 106; (have tk := tk3); clear tk3 tk; (with_reducible refine (errN F b P a2 e2 e2 rfl _ q3.out).mono ?_); rintro r2 w4 ⟨rfl, rfl⟩)
    | (go_at_call 105; (with_reducible refine (refuse_ok _).mono ?_); rintro r2 w4 ⟨rfl, rfl⟩)
    | (go_at_call 105; (with_reducible refine (refuse_no e2 HE.out _).mono ?_); rintro r2 w4 ⟨rfl, rfl⟩))
  have T5 := T3
  have O5 := O3
  have BB := B3
  have O6 := (O5.new (below_alloc1 (Below.refl _ _) (Nat.le_refl _) (.cells #[.int .i64 e2] 198))).set (.int .i64 e2)
  have T6 := (T5.new (below_alloc1 (Below.refl _ _) (Nat.le_refl _) (.cells #[.int .i64 e2] 198))).other (g := w.heap.size + 1) (j := 0) (u := .int .i64 e2) (by omega)
  refine leaves_cons (f := 103) (args := #[.pointer (some ⟨w.heap.size + 1, 0, none⟩)]) (by simp) (by simp [go_sem]) ?_
  refine (caught_panic _ _ _ _ O5.c0 (O5.fz 0)).mono ?_
  rintro r6 u6 w6 ⟨rfl, rfl, rfl⟩
  refine leaves_cons (f := 102) (args := #[.pointer (some ⟨w.heap.size + 1, 0, none⟩), .pointer (some ⟨w.heap.size, 0, none⟩)]) (by simp [settle]) (by simp [go_sem]) ?_
  refine (undoB_no _ w.heap.size _ HE.out _ _ _ _ O6.c0 T6).mono ?_
  rintro r7 u7 w7 ⟨rfl, rfl, rfl⟩
  show Leaves _ _ _ _ [] .returning _
  have T7 := (T6.set0 (.int .u64 0)).set1 (.slice none 0 0)
  have O7 := (O6.other (g := w.heap.size) (j := 0) (u := .int .u64 0) (by omega)).other (g := w.heap.size) (j := 1) (u := .slice none 0 0) (by omega)
  refine ⟨_, results_batch rfl _ _ w.heap.size (w.heap.size + 1) _ _ _ rfl rfl T7 O7.c0, rfl, ?_⟩
  exact ((((BB.out.alloc BB.out.size (.cells #[.int .i64 e2] 198)).setCell (by show w.heap.size ≤ w.heap.size + 1; omega) _)).setCell (Nat.le_refl _) _).setCell (Nat.le_refl _) _
set_option maxHeartbeats 400000 in
set_option maxRecDepth 100000 in
theorem batch_n3 (A : Option Addr) (P : List UInt8) (n c : Nat) (w : World) (hp : RB w A c P) (hn : n = P.length) (hl : P.length ≤ 140737488355328) (f a1 m a2 : Nat) (hU1 : uvarS P 0 0 = (f, a1, 0)) (hU2 : uvarS P a1 0 = (m, a2, 0)) (hm : 64 < m) :
    Calls Tryz.prog 58 #[.slice A n c] w fun r w' => r = .returned (.tuple #[.agg #[.int .u64 0, .slice none 0 0], .int .i64 2]) ∧ Below w.heap.size w w' := by
  subst hn
  have hmf : ∀ (fn : Fn) (first cap : Array Value) (w : World), (Instr.makeFunc fn first cap).run Tryz.prog w = .ok (.func fn first cap) w := fun _ _ _ _ => rfl
  have HB := Lib.hid (belowA (below_alloc1 (Below.refl w.heap.size w) (Nat.le_refl _) (.cells #[.int .u64 0, .slice none 0 0] 35)) (.cells #[.int .i64 0] 25))
  have HT := Lib.hid ((Duo.fresh w w.heap.size rfl (.int .u64 0) (.slice none 0 0) 35).new (below_alloc1 (Below.refl _ _) (Nat.le_refl _) (.cells #[.int .i64 0] 25)))
  have HO := Lib.hid (One.fresh (w.alloc (.cells #[.int .u64 0, .slice none 0 0] 35)) (w.heap.size + 1) (asz _ _) (.int .i64 0) 25)
  have hl2 : P.length ≤ 9223372036854775807 := by omega
  have h0 := Lib.hid (show (0 : Int) = ((0 : Nat) : Int) from rfl)
  have HU1 := Lib.hid hU1
  have HU2 := Lib.hid hU2
  have HE : Hid ((2 : Int) ≠ 0) := Lib.hid (by decide)
  clear hU1 hU2
  go_enter_defers Tryz.func58, Tryz.ntmps58
  go_wp2_with (first
    | (go_at_call 94; go_loud (with_reducible refine (newReader_own A P c _ _ (hp.new HB.out) rfl hl).mono ?_); rintro e1 w1 ⟨b, F, rfl, hr1, hf1, hb1⟩; have T1 := HT.out.new hb1; have O1 := HO.out.new hb1; have B1 := Lib.hid (below_then HB.out hb1); have HF0 : Hid (∀ k, F k → w.heap.size + 1 + 1 ≤ k) := Lib.hid (fun k hk => Nat.le_trans (Nat.le_of_eq (asz2 w _ _).symm) (hf1.lo k hk)); have hbA : w.heap.size + 1 + 1 ≤ b := HF0.out _ hr1.lo; have HN0 : Hid (¬ F w.heap.size) := Lib.hid (fun e9 => by have := HF0.out _ e9; omega))
    | (go_at_call 104; (with_reducible refine (ruvarW F b P 0 _ f a1 0 rfl HU1.out _ hr1 hl2).mono ?_); rintro e2 w2 ⟨rfl, hr2, hg2⟩; have T2 := T1.grown hg2 (by omega); have O2 := O1.grown hg2 (by omega); have hz2 := T2.lt; have d0 := T2.c0; have d1 := T2.c1; have f0 := T2.fz 0; have f1 := T2.fz 1; have S2 := T2.set0 (.int .u64 f); have Q2 := O2.other (g := w.heap.size) (j := 0) (u := .int .u64 f) (by omega); have q2 := Lib.hid (hr2.setBox (j := 0) (v := .int .u64 f) HN0.out); have B2 := Lib.hid (belowS (g := w.heap.size) (j := 0) (below_reader B1.out hg2 (by omega)) (Nat.le_refl _) (.int .u64 f)); have g0 := S2.c0; have g1 := S2.c1; have tk2 := trivial)
    | (go_at_call 106; (have tk := tk2); clear tk2 tk; (with_reducible refine (errN F b P a1 0 0 h0.out _ q2.out).mono ?_); rintro r2 w4 ⟨rfl, rfl⟩)
    | (go_at_call 104; (with_reducible refine (ruvarW F b P a1 _ m a2 0 rfl HU2.out _ q2.out hl2).mono ?_); rintro e3 w3 ⟨rfl, hr3, hg3⟩; have T3 := S2.grown hg3 (by omega); have O3 := Q2.grown hg3 (by omega); have hz3 := T3.lt; have z0 := T3.c0; have z1 := T3.c1; have q3 := Lib.hid hr3; have B3 := Lib.hid (below_reader B2.out hg3 (by omega)); have tk3 := trivial)
    | (go_at_call 106; (have tk := tk3); clear tk3 tk; (with_reducible refine (errN F b P a2 0 0 h0.out _ q3.out).mono ?_); rintro r2 w4 ⟨rfl, rfl⟩)
    | (go_at_call 105; (with_reducible refine (refuse_ok _).mono ?_); rintro r2 w4 ⟨rfl, rfl⟩)
    | (go_at_call 105; (with_reducible refine (refuse_no 2 HE.out _).mono ?_); rintro r2 w4 ⟨rfl, rfl⟩))
  have T5 := T3
  have O5 := O3
  have BB := B3
  have O6 := (O5.new (below_alloc1 (Below.refl _ _) (Nat.le_refl _) (.cells #[.int .i64 2] 198))).set (.int .i64 2)
  have T6 := (T5.new (below_alloc1 (Below.refl _ _) (Nat.le_refl _) (.cells #[.int .i64 2] 198))).other (g := w.heap.size + 1) (j := 0) (u := .int .i64 2) (by omega)
  refine leaves_cons (f := 103) (args := #[.pointer (some ⟨w.heap.size + 1, 0, none⟩)]) (by simp) (by simp [go_sem]) ?_
  refine (caught_panic _ _ _ _ O5.c0 (O5.fz 0)).mono ?_
  rintro r6 u6 w6 ⟨rfl, rfl, rfl⟩
  refine leaves_cons (f := 102) (args := #[.pointer (some ⟨w.heap.size + 1, 0, none⟩), .pointer (some ⟨w.heap.size, 0, none⟩)]) (by simp [settle]) (by simp [go_sem]) ?_
  refine (undoB_no _ w.heap.size _ HE.out _ _ _ _ O6.c0 T6).mono ?_
  rintro r7 u7 w7 ⟨rfl, rfl, rfl⟩
  show Leaves _ _ _ _ [] .returning _
  have T7 := (T6.set0 (.int .u64 0)).set1 (.slice none 0 0)
  have O7 := (O6.other (g := w.heap.size) (j := 0) (u := .int .u64 0) (by omega)).other (g := w.heap.size) (j := 1) (u := .slice none 0 0) (by omega)
  refine ⟨_, results_batch rfl _ _ w.heap.size (w.heap.size + 1) _ _ _ rfl rfl T7 O7.c0, rfl, ?_⟩
  exact ((((BB.out.alloc BB.out.size (.cells #[.int .i64 2] 198)).setCell (by show w.heap.size ≤ w.heap.size + 1; omega) _)).setCell (Nat.le_refl _) _).setCell (Nat.le_refl _) _
set_option maxHeartbeats 400000 in
set_option maxRecDepth 100000 in
theorem batch_n4a (A : Option Addr) (P : List UInt8) (n c : Nat) (w : World) (hp : RB w A c P) (hn : n = P.length) (hl : P.length ≤ 140737488355328) (f a1 m a2 : Nat) (hU1 : uvarS P 0 0 = (f, a1, 0)) (hU2 : uvarS P a1 0 = (m, a2, 0)) (hmz : m = 0) :
    Calls Tryz.prog 58 #[.slice A n c] w fun r w' => r = .returned (.tuple #[.agg #[.int .u64 0, .slice none 0 0], .int .i64 3]) ∧ Below w.heap.size w w' := by
  subst hn
  have hmf : ∀ (fn : Fn) (first cap : Array Value) (w : World), (Instr.makeFunc fn first cap).run Tryz.prog w = .ok (.func fn first cap) w := fun _ _ _ _ => rfl
  have HB := Lib.hid (belowA (below_alloc1 (Below.refl w.heap.size w) (Nat.le_refl _) (.cells #[.int .u64 0, .slice none 0 0] 35)) (.cells #[.int .i64 0] 25))
  have HT := Lib.hid ((Duo.fresh w w.heap.size rfl (.int .u64 0) (.slice none 0 0) 35).new (below_alloc1 (Below.refl _ _) (Nat.le_refl _) (.cells #[.int .i64 0] 25)))
  have HO := Lib.hid (One.fresh (w.alloc (.cells #[.int .u64 0, .slice none 0 0] 35)) (w.heap.size + 1) (asz _ _) (.int .i64 0) 25)
  have hl2 : P.length ≤ 9223372036854775807 := by omega
  have h0 := Lib.hid (show (0 : Int) = ((0 : Nat) : Int) from rfl)
  have HU1 := Lib.hid hU1
  have HU2 := Lib.hid hU2
  have HE : Hid ((3 : Int) ≠ 0) := Lib.hid (by decide)
  clear hU1 hU2
  go_enter_defers Tryz.func58, Tryz.ntmps58
  go_wp2_with (first
    | (go_at_call 94; go_loud (with_reducible refine (newReader_own A P c _ _ (hp.new HB.out) rfl hl).mono ?_); rintro e1 w1 ⟨b, F, rfl, hr1, hf1, hb1⟩; have T1 := HT.out.new hb1; have O1 := HO.out.new hb1; have B1 := Lib.hid (below_then HB.out hb1); have HF0 : Hid (∀ k, F k → w.heap.size + 1 + 1 ≤ k) := Lib.hid (fun k hk => Nat.le_trans (Nat.le_of_eq (asz2 w _ _).symm) (hf1.lo k hk)); have hbA : w.heap.size + 1 + 1 ≤ b := HF0.out _ hr1.lo; have HN0 : Hid (¬ F w.heap.size) := Lib.hid (fun e9 => by have := HF0.out _ e9; omega))
    | (go_at_call 104; (with_reducible refine (ruvarW F b P 0 _ f a1 0 rfl HU1.out _ hr1 hl2).mono ?_); rintro e2 w2 ⟨rfl, hr2, hg2⟩; have T2 := T1.grown hg2 (by omega); have O2 := O1.grown hg2 (by omega); have hz2 := T2.lt; have d0 := T2.c0; have d1 := T2.c1; have f0 := T2.fz 0; have f1 := T2.fz 1; have S2 := T2.set0 (.int .u64 f); have Q2 := O2.other (g := w.heap.size) (j := 0) (u := .int .u64 f) (by omega); have q2 := Lib.hid (hr2.setBox (j := 0) (v := .int .u64 f) HN0.out); have B2 := Lib.hid (belowS (g := w.heap.size) (j := 0) (below_reader B1.out hg2 (by omega)) (Nat.le_refl _) (.int .u64 f)); have g0 := S2.c0; have g1 := S2.c1; have tk2 := trivial)
    | (go_at_call 106; (have tk := tk2); clear tk2 tk; (with_reducible refine (errN F b P a1 0 0 h0.out _ q2.out).mono ?_); rintro r2 w4 ⟨rfl, rfl⟩)
    | (go_at_call 104; (with_reducible refine (ruvarW F b P a1 _ m a2 0 rfl HU2.out _ q2.out hl2).mono ?_); rintro e3 w3 ⟨rfl, hr3, hg3⟩; have T3 := S2.grown hg3 (by omega); have O3 := Q2.grown hg3 (by omega); have hz3 := T3.lt; have z0 := T3.c0; have z1 := T3.c1; have q3 := Lib.hid hr3; have B3 := Lib.hid (below_reader B2.out hg3 (by omega)); have tk3 := trivial)
    | (go_at_call 106; (have tk := tk3); clear tk3 tk; (with_reducible refine (errN F b P a2 0 0 h0.out _ q3.out).mono ?_); rintro r2 w4 ⟨rfl, rfl⟩)
    | (go_at_call 105; (with_reducible refine (refuse_ok _).mono ?_); rintro r2 w4 ⟨rfl, rfl⟩)
    | (go_at_call 105; (with_reducible refine (refuse_no 3 HE.out _).mono ?_); rintro r2 w4 ⟨rfl, rfl⟩))
  have T5 := T3
  have O5 := O3
  have BB := B3
  have O6 := (O5.new (below_alloc1 (Below.refl _ _) (Nat.le_refl _) (.cells #[.int .i64 3] 198))).set (.int .i64 3)
  have T6 := (T5.new (below_alloc1 (Below.refl _ _) (Nat.le_refl _) (.cells #[.int .i64 3] 198))).other (g := w.heap.size + 1) (j := 0) (u := .int .i64 3) (by omega)
  refine leaves_cons (f := 103) (args := #[.pointer (some ⟨w.heap.size + 1, 0, none⟩)]) (by simp) (by simp [go_sem]) ?_
  refine (caught_panic _ _ _ _ O5.c0 (O5.fz 0)).mono ?_
  rintro r6 u6 w6 ⟨rfl, rfl, rfl⟩
  refine leaves_cons (f := 102) (args := #[.pointer (some ⟨w.heap.size + 1, 0, none⟩), .pointer (some ⟨w.heap.size, 0, none⟩)]) (by simp [settle]) (by simp [go_sem]) ?_
  refine (undoB_no _ w.heap.size _ HE.out _ _ _ _ O6.c0 T6).mono ?_
  rintro r7 u7 w7 ⟨rfl, rfl, rfl⟩
  show Leaves _ _ _ _ [] .returning _
  have T7 := (T6.set0 (.int .u64 0)).set1 (.slice none 0 0)
  have O7 := (O6.other (g := w.heap.size) (j := 0) (u := .int .u64 0) (by omega)).other (g := w.heap.size) (j := 1) (u := .slice none 0 0) (by omega)
  refine ⟨_, results_batch rfl _ _ w.heap.size (w.heap.size + 1) _ _ _ rfl rfl T7 O7.c0, rfl, ?_⟩
  exact ((((BB.out.alloc BB.out.size (.cells #[.int .i64 3] 198)).setCell (by show w.heap.size ≤ w.heap.size + 1; omega) _)).setCell (Nat.le_refl _) _).setCell (Nat.le_refl _) _
set_option maxHeartbeats 400000 in
set_option maxRecDepth 100000 in
theorem batch_n4b (A : Option Addr) (P : List UInt8) (n c : Nat) (w : World) (hp : RB w A c P) (hn : n = P.length) (hl : P.length ≤ 140737488355328) (f a1 m a2 : Nat) (hU1 : uvarS P 0 0 = (f, a1, 0)) (hU2 : uvarS P a1 0 = (m, a2, 0)) (hf : f ≤ 18446744073709551615) (hm : m ≤ 64) (hmz : ¬ m = 0) (hb : 18446744073709551616 ≤ f + m) :
    Calls Tryz.prog 58 #[.slice A n c] w fun r w' => r = .returned (.tuple #[.agg #[.int .u64 0, .slice none 0 0], .int .i64 3]) ∧ Below w.heap.size w w' := by
  subst hn
  have hmf : ∀ (fn : Fn) (first cap : Array Value) (w : World), (Instr.makeFunc fn first cap).run Tryz.prog w = .ok (.func fn first cap) w := fun _ _ _ _ => rfl
  have HB := Lib.hid (belowA (below_alloc1 (Below.refl w.heap.size w) (Nat.le_refl _) (.cells #[.int .u64 0, .slice none 0 0] 35)) (.cells #[.int .i64 0] 25))
  have HT := Lib.hid ((Duo.fresh w w.heap.size rfl (.int .u64 0) (.slice none 0 0) 35).new (below_alloc1 (Below.refl _ _) (Nat.le_refl _) (.cells #[.int .i64 0] 25)))
  have HO := Lib.hid (One.fresh (w.alloc (.cells #[.int .u64 0, .slice none 0 0] 35)) (w.heap.size + 1) (asz _ _) (.int .i64 0) 25)
  have hl2 : P.length ≤ 9223372036854775807 := by omega
  have h0 := Lib.hid (show (0 : Int) = ((0 : Nat) : Int) from rfl)
  have HU1 := Lib.hid hU1
  have HU2 := Lib.hid hU2
  have HE : Hid ((3 : Int) ≠ 0) := Lib.hid (by decide)
  have HFT := Lib.hid (show decide (f + m < 18446744073709551616) = false by rw [decide_eq_false_iff_not]; omega)
  clear hU1 hU2 hb
  go_enter_defers Tryz.func58, Tryz.ntmps58
  go_wp2_with (first
    | (go_at_call 94; go_loud (with_reducible refine (newReader_own A P c _ _ (hp.new HB.out) rfl hl).mono ?_); rintro e1 w1 ⟨b, F, rfl, hr1, hf1, hb1⟩; have T1 := HT.out.new hb1; have O1 := HO.out.new hb1; have B1 := Lib.hid (below_then HB.out hb1); have HF0 : Hid (∀ k, F k → w.heap.size + 1 + 1 ≤ k) := Lib.hid (fun k hk => Nat.le_trans (Nat.le_of_eq (asz2 w _ _).symm) (hf1.lo k hk)); have hbA : w.heap.size + 1 + 1 ≤ b := HF0.out _ hr1.lo; have HN0 : Hid (¬ F w.heap.size) := Lib.hid (fun e9 => by have := HF0.out _ e9; omega))
    | (go_at_call 104; (with_reducible refine (ruvarW F b P 0 _ f a1 0 rfl HU1.out _ hr1 hl2).mono ?_); rintro e2 w2 ⟨rfl, hr2, hg2⟩; have T2 := T1.grown hg2 (by omega); have O2 := O1.grown hg2 (by omega); have hz2 := T2.lt; have d0 := T2.c0; have d1 := T2.c1; have f0 := T2.fz 0; have f1 := T2.fz 1; have S2 := T2.set0 (.int .u64 f); have Q2 := O2.other (g := w.heap.size) (j := 0) (u := .int .u64 f) (by omega); have q2 := Lib.hid (hr2.setBox (j := 0) (v := .int .u64 f) HN0.out); have B2 := Lib.hid (belowS (g := w.heap.size) (j := 0) (below_reader B1.out hg2 (by omega)) (Nat.le_refl _) (.int .u64 f)); have g0 := S2.c0; have g1 := S2.c1; have tk2 := trivial)
    | (go_at_call 106; (have tk := tk2); clear tk2 tk; (with_reducible refine (errN F b P a1 0 0 h0.out _ q2.out).mono ?_); rintro r2 w4 ⟨rfl, rfl⟩)
    | (go_at_call 104; (with_reducible refine (ruvarW F b P a1 _ m a2 0 rfl HU2.out _ q2.out hl2).mono ?_); rintro e3 w3 ⟨rfl, hr3, hg3⟩; have T3 := S2.grown hg3 (by omega); have O3 := Q2.grown hg3 (by omega); have hz3 := T3.lt; have z0 := T3.c0; have z1 := T3.c1; have q3 := Lib.hid hr3; have B3 := Lib.hid (below_reader B2.out hg3 (by omega)); have tk3 := trivial)
    | (go_at_call 106; (have tk := tk3); clear tk3 tk; (with_reducible refine (errN F b P a2 0 0 h0.out _ q3.out).mono ?_); rintro r2 w4 ⟨rfl, rfl⟩)
    | (go_at_call 105; (with_reducible refine (refuse_ok _).mono ?_); rintro r2 w4 ⟨rfl, rfl⟩)
    | (go_at_call 84; go_loud (with_reducible refine (efits_calls f m _ rfl hf (by omega) _ false HFT.out).mono ?_); rintro r5 w5 ⟨rfl, rfl⟩)
    | (go_at_call 105; (with_reducible refine (refuse_no 3 HE.out _).mono ?_); rintro r2 w4 ⟨rfl, rfl⟩))
  have T5 := T3
  have O5 := O3
  have BB := B3
  have O6 := (O5.new (below_alloc1 (Below.refl _ _) (Nat.le_refl _) (.cells #[.int .i64 3] 198))).set (.int .i64 3)
  have T6 := (T5.new (below_alloc1 (Below.refl _ _) (Nat.le_refl _) (.cells #[.int .i64 3] 198))).other (g := w.heap.size + 1) (j := 0) (u := .int .i64 3) (by omega)
  refine leaves_cons (f := 103) (args := #[.pointer (some ⟨w.heap.size + 1, 0, none⟩)]) (by simp) (by simp [go_sem]) ?_
  refine (caught_panic _ _ _ _ O5.c0 (O5.fz 0)).mono ?_
  rintro r6 u6 w6 ⟨rfl, rfl, rfl⟩
  refine leaves_cons (f := 102) (args := #[.pointer (some ⟨w.heap.size + 1, 0, none⟩), .pointer (some ⟨w.heap.size, 0, none⟩)]) (by simp [settle]) (by simp [go_sem]) ?_
  refine (undoB_no _ w.heap.size _ HE.out _ _ _ _ O6.c0 T6).mono ?_
  rintro r7 u7 w7 ⟨rfl, rfl, rfl⟩
  show Leaves _ _ _ _ [] .returning _
  have T7 := (T6.set0 (.int .u64 0)).set1 (.slice none 0 0)
  have O7 := (O6.other (g := w.heap.size) (j := 0) (u := .int .u64 0) (by omega)).other (g := w.heap.size) (j := 1) (u := .slice none 0 0) (by omega)
  refine ⟨_, results_batch rfl _ _ w.heap.size (w.heap.size + 1) _ _ _ rfl rfl T7 O7.c0, rfl, ?_⟩
  exact ((((BB.out.alloc BB.out.size (.cells #[.int .i64 3] 198)).setCell (by show w.heap.size ≤ w.heap.size + 1; omega) _)).setCell (Nat.le_refl _) _).setCell (Nat.le_refl _) _
theorem clip_calls (A : Option Addr) (n c : Nat) (hc : n ≤ c) (_hn : n ≤ 9223372036854775807) (w : World) :
    Calls Tryz.prog 108 #[.slice A n c] w fun e w' => e = .returned (.slice A n n) ∧ w = w' := by
  go_enter Tryz.func108, Tryz.ntmps108
  go_wp2
  go_ret
  exact ⟨rfl, rfl⟩
theorem EL.cap {w : World} {base n c : Nat} {A : Option Addr} {es : List EnX} (h : EL w base (.slice A n c) n es) : n ≤ c := by
  rcases h.row.2 with ⟨h1, hn⟩ | ⟨g, cap, cur, e, hb, hh, hn, _⟩
  · omega
  · injection e with e1 e2 e3
    omega
theorem entS_k (P : List UInt8) (at_ : Nat) (h : (entS P at_).e = 0) : (entS P at_).v.k = 1 ∨ (entS P at_).v.k = 2 := by
  unfold entS entNo at h ⊢
  split
  · rename_i h1; rw [if_pos h1] at h; exact absurd h h1
  · rename_i h1
    rw [if_neg h1] at h
    split
    · rename_i h2; rw [if_pos h2] at h; exact absurd h (by decide)
    · rename_i h2
      rw [if_neg h2] at h
      split
      · rename_i h3; rw [if_pos h3] at h; exact absurd h h3
      · rename_i h3
        rw [if_neg h3] at h
        split
        · rename_i h4
          rw [if_pos h4] at h
          split
          · rename_i h5; rw [if_pos h5] at h; exact absurd h h5
          · exact .inl rfl
        · exact .inr rfl
theorem tri_at (w : World) (x y z : Value) (t : TypeId) : (w.alloc (.cells #[x, y, z] t)).cell? ((⟨w.heap.size, 0, none⟩ : Addr).add 0) = some x ∧ (w.alloc (.cells #[x, y, z] t)).cell? ((⟨w.heap.size, 0, none⟩ : Addr).add 1) = some y ∧ (w.alloc (.cells #[x, y, z] t)).cell? ((⟨w.heap.size, 0, none⟩ : Addr).add 2) = some z := by
  have T := Trio.fresh w w.heap.size rfl x y z t
  have e : ∀ j, (⟨w.heap.size, 0, none⟩ : Addr).add j = ⟨w.heap.size, j, none⟩ := fun j => by unfold Addr.add; split <;> simp_all
  rw [e, e, e]
  exact ⟨T.c0, T.c1, T.c2⟩
theorem Rd.far {w w' : World} {F : Nat → Prop} {b : Nat} {P : List UInt8} {at_ e : Nat} {row : Option Nat} (h : Rd w F b P at_ e) (hg : w.grownBy w' row) (hne : ∀ k, F k → row ≠ some k) : Rd w' F b P at_ e :=
  h.keep (hg.block b h.bLt (fun e9 => hne b h.lo e9.symm)) fun k hk _ hlt => hg.block k hlt (fun e9 => hne k hk e9.symm)
theorem Duo.far {w w' : World} {b : Nat} {x y : Value} {row : Option Nat} (h : Duo w b x y) (hg : w.grownBy w' row) (hne : row ≠ some b) : Duo w' b x y := h.keep (hg.block b h.lt (fun e9 => hne e9.symm))
theorem One.far {w w' : World} {b : Nat} {x : Value} {row : Option Nat} (h : One w b x) (hg : w.grownBy w' row) (hne : row ≠ some b) : One w' b x := h.keep (hg.block b h.lt (fun e9 => hne e9.symm))
set_option maxHeartbeats 1000000 in
set_option maxRecDepth 100000 in
theorem batch_main (A : Option Addr) (P : List UInt8) (n c : Nat) (w : World) (hp : RB w A c P) (hn : n = P.length) (hl : P.length ≤ 140737488355328) (f a1 m a2 : Nat) (hU1 : uvarS P 0 0 = (f, a1, 0)) (hU2 : uvarS P a1 0 = (m, a2, 0)) (hf : f ≤ 18446744073709551615) (hm : m ≤ 64) (hmz : ¬ m = 0) (hb : f + m < 18446744073709551616) (t : Bat) (ht : batF P f m a2 = t) :
    Calls Tryz.prog 58 #[.slice A n c] w fun r w' => ∃ A' c', r = .returned (.tuple #[.agg #[.int .u64 t.f, .slice A' t.l.length c'], .int .i64 t.e]) ∧ BatK w w' A' t.l.length t.l := by
  subst hn
  have hmf : ∀ (fn : Fn) (first cap : Array Value) (w : World), (Instr.makeFunc fn first cap).run Tryz.prog w = .ok (.func fn first cap) w := fun _ _ _ _ => rfl
  have HB := Lib.hid (belowA (below_alloc1 (Below.refl w.heap.size w) (Nat.le_refl _) (.cells #[.int .u64 0, .slice none 0 0] 35)) (.cells #[.int .i64 0] 25))
  have HT := Lib.hid ((Duo.fresh w w.heap.size rfl (.int .u64 0) (.slice none 0 0) 35).new (below_alloc1 (Below.refl _ _) (Nat.le_refl _) (.cells #[.int .i64 0] 25)))
  have HO := Lib.hid (One.fresh (w.alloc (.cells #[.int .u64 0, .slice none 0 0] 35)) (w.heap.size + 1) (asz _ _) (.int .i64 0) 25)
  have hl2 : P.length ≤ 9223372036854775807 := by omega
  have h0 := Lib.hid (show (0 : Int) = ((0 : Nat) : Int) from rfl)
  have HU1 := Lib.hid hU1
  have HU2 := Lib.hid hU2
  have HBF := Lib.hid ht
  have hb64 : decide ((64 : Int) < (m : Int)) = false := by rw [decide_eq_false_iff_not]; omega
  have hb00 : ((m : Int) == 0) = false := by rw [beq_eq_false_iff_ne]; omega
  have HFT := Lib.hid (show decide (f + m < 18446744073709551616) = true by rw [decide_eq_true_eq]; omega)
  clear hU1 hU2 hb ht
  go_enter_defers Tryz.func58, Tryz.ntmps58
  go_wp2_with (first
    | (go_at_call 94; go_loud (with_reducible refine (newReader_own A P c _ _ (hp.new HB.out) rfl hl).mono ?_); rintro e1 w1 ⟨b, F, rfl, hr1, hf1, hb1⟩; have T1 := HT.out.new hb1; have O1 := HO.out.new hb1; have B1 := Lib.hid (below_then HB.out hb1); have HF0 : Hid (∀ k, F k → w.heap.size + 1 + 1 ≤ k) := Lib.hid (fun k hk => Nat.le_trans (Nat.le_of_eq (asz2 w _ _).symm) (hf1.lo k hk)); have hbA : w.heap.size + 1 + 1 ≤ b := HF0.out _ hr1.lo; have HN0 : Hid (¬ F w.heap.size) := Lib.hid (fun e9 => by have := HF0.out _ e9; omega))
    | (go_at_call 104; (with_reducible refine (ruvarW F b P 0 _ f a1 0 rfl HU1.out _ hr1 hl2).mono ?_); rintro e2 w2 ⟨rfl, hr2, hg2⟩; have T2 := T1.grown hg2 (by omega); have O2 := O1.grown hg2 (by omega); have hz2 := T2.lt; have d0 := T2.c0; have d1 := T2.c1; have f0 := T2.fz 0; have f1 := T2.fz 1; have S2 := T2.set0 (.int .u64 f); have Q2 := O2.other (g := w.heap.size) (j := 0) (u := .int .u64 f) (by omega); have q2 := Lib.hid (hr2.setBox (j := 0) (v := .int .u64 f) HN0.out); have B2 := Lib.hid (belowS (g := w.heap.size) (j := 0) (below_reader B1.out hg2 (by omega)) (Nat.le_refl _) (.int .u64 f)); have g0 := S2.c0; have g1 := S2.c1; have tk2 := trivial)
    | (go_at_call 106; (have tk := tk2); clear tk2 tk; (with_reducible refine (errN F b P a1 0 0 h0.out _ q2.out).mono ?_); rintro r2 w4 ⟨rfl, rfl⟩)
    | (go_at_call 104; (with_reducible refine (ruvarW F b P a1 _ m a2 0 rfl HU2.out _ q2.out hl2).mono ?_); rintro e3 w3 ⟨rfl, hr3, hg3⟩; have T3 := S2.grown hg3 (by omega); have O3 := Q2.grown hg3 (by omega); have hz3 := T3.lt; have z0 := T3.c0; have z1 := T3.c1; have q3 := Lib.hid hr3; have B3 := Lib.hid (below_reader B2.out hg3 (by omega)); have tk3 := trivial)
    | (go_at_call 106; (have tk := tk3); clear tk3 tk; (with_reducible refine (errN F b P a2 0 0 h0.out _ q3.out).mono ?_); rintro r2 w4 ⟨rfl, rfl⟩)
    | (go_at_call 105; (with_reducible refine (refuse_ok _).mono ?_); rintro r2 w4 ⟨rfl, rfl⟩)
    | (go_at_call 84; go_loud (with_reducible refine (efits_calls f m _ rfl hf (by omega) _ true HFT.out).mono ?_); rintro r5 w5 ⟨rfl, rfl⟩))
  go_loopw [35] (fun iv wr => ∃ (j at_ : Nat) (es : List EnX) (A1 : Option Addr) (c1 : Nat), j ≤ m ∧ iv = .int .u64 j ∧ Duo wr w.heap.size (.int .u64 f) (.slice A1 j c1) ∧ One wr (w.heap.size + 1) (.int .i64 0) ∧ EL wr w1.heap.size (.slice A1 j c1) j es ∧ SepR wr w1.heap.size (.slice A1 j c1) es ∧ Rd wr F b P at_ 0 ∧ Below w.heap.size w wr ∧ w1.heap.size ≤ wr.heap.size ∧ Hid (entsS P m a2 = ⟨(entsS P (m - j) at_).e, ensOf es ++ (entsS P (m - j) at_).l, (entsS P (m - j) at_).at_⟩)) (fun iv _ => m - (intOf iv).toNat)
  case atStart => exact ⟨0, a2, [], none, 0, Nat.zero_le _, rfl, T3, O3, EL.nil _ _, SepR.nil _ _ _, q3.out, B3.out, by have h1 := hg2.size; have h2 := hg3.size; simp [World.setCell] at h2; omega, Lib.hid (by simp [ensOf])⟩
  case round =>
    obtain ⟨j, at_, es, A1, c1, hj, rfl, HTT, HOO, HEL, HSP, HRd, HBB, hw1, HEQ⟩ := hrel
    have d0 := HTT.c0
    have d1 := HTT.c1
    have f0 := HTT.fz 0
    have f1 := HTT.fz 1
    by_cases hlt : j < m
    · have hsucc : m - j = (m - (j + 1)) + 1 := by omega
      have hFlt : ∀ k, F k → k < wr.heap.size := fun k hk => Nat.lt_of_lt_of_le (hf1.hi k hk) hw1
      have hA0 : w.heap.size + 1 < w1.heap.size := O1.lt
      have HFL := Lib.hid hFlt
      clear hFlt
      obtain ⟨tt, htt⟩ : ∃ tt, tt = entS P at_ := ⟨_, rfl⟩
      have HKK : Hid (tt.e = 0 → tt.v.k ≤ 255) := Lib.hid (fun h => by rw [htt] at h ⊢; rcases entS_k P at_ h with e | e <;> omega)
      have HTT2 := Lib.hid htt.symm
      rw [hsucc, entsS, ← htt] at HEQ
      clear htt
      by_cases he : tt.e = 0
      · have HE0 := Lib.hid he
        have hEQ := HEQ.out
        rw [if_neg (by rw [he]; decide)] at hEQ
        have HEQ := Lib.hid hEQ
        clear he hEQ hsucc
        have HROW := Lib.hid HEL.lt
        go_wp2
        refine wp_region_noPanic ?_
        go_region_law (first
          | ((go_simp; go_at_call 107; refine (etake_ok F b P at_ _ (HRd.new (below_drew _ _)) HFL.out hl tt HTT2.out HE0.out).mono ?_; rintro r5 w5 ⟨a, rfl, hK, hV, hr5, hw5, hkv⟩; have SP5 := Lib.hid (((HSP.new (below_drew _ _)).stepE hw5.step (fun k hk => hf1.hi k hk)).push (x := (tt.v, a)) (m := wr.heap.size) (fun u hu k hk => (HSP.sep.lt u hu k hk).2) (fun k e9 => (HROW.out k e9).2) hK hV hw1 hkv); have T5 := (HTT.new (below_drew _ _)).stepE hw5.step HN0.out; have O5 := (HOO.new (below_drew _ _)).stepE hw5.step (fun e9 => by have := HF0.out _ e9; omega); have L5 := Lib.hid ((HEL.new (below_drew _ _)).stepE hw5.step (fun k hk => hf1.hi k hk)); have hz5 := T5.lt; have x0 := T5.c0; have x1 := T5.c1; have B5 := Lib.hid ((HBB.drew).trans (hw5.step.below (B := w.heap.size) HBB.size (fun k hk => by have := HF0.out _ hk; omega))); have E5 := Lib.hid ((EnOk.mk (HKK.out HE0.out) hK.rb hV.rb : EnOk w5 tt.v a).new (below_alloc1 (Below.refl _ _) (Nat.le_refl _) (.cells #[.int .u8 tt.v.k, .slice a.KA tt.v.K.length a.kc, .slice a.VA tt.v.V.length a.vc] 72))); have R5 : Hid (FarE w1.heap.size (.slice A1 j c1) (tt.v, a)) := Lib.hid ⟨fun ad e hp => ⟨Nat.le_trans hw1 (hK.lo ad e hp), fun e9 => by have h8 := (HROW.out _ e9).2; have h9 : wr.heap.size ≤ ad.block := hK.lo ad e hp; omega⟩, fun ad e hp => ⟨Nat.le_trans hw1 (hV.lo ad e hp), fun e9 => by have h8 := (HROW.out _ e9).2; have h9 : wr.heap.size ≤ ad.block := hV.lo ad e hp; omega⟩⟩; have s5 := hw5.step.size))
          | (refine step_appendEK ent rfl (.tmp 38) (.tmp 41) rfl w1.heap.size (.slice A1 j c1) j es rfl (L5.out.new (below_alloc1 (Below.refl _ _) (Nat.le_refl _) (.cells #[.int .u8 tt.v.k, .slice a.KA tt.v.K.length a.kc, .slice a.VA tt.v.V.length a.vc] 72))) (tt.v, a) ⟨w5.heap.size, 0, Option.none⟩ rfl (tri_at w5 _ _ _ _).1 (tri_at w5 _ _ _ _).2.1 (tri_at w5 _ _ _ _).2.2 E5.out R5.out (by omega) (by rw [asz]; have h9 : wr.heap.size ≤ w5.heap.size := s5; omega) fun A' c' w7 hl7 hg7 ho7 => ?_; have SP7 := Lib.hid ((SP5.out.new (below_alloc1 (Below.refl _ _) (Nat.le_refl _) (.cells #[.int .u8 tt.v.k, .slice a.KA tt.v.K.length a.kc, .slice a.VA tt.v.V.length a.vc] 72))).grown hg7 ho7); have T7 := (T5.new (below_alloc1 (Below.refl _ _) (Nat.le_refl _) (.cells #[.int .u8 tt.v.k, .slice a.KA tt.v.K.length a.kc, .slice a.VA tt.v.V.length a.vc] 72))).far hg7 (fun e9 => by have := HROW.out _ e9; omega); have O7 := (O5.new (below_alloc1 (Below.refl _ _) (Nat.le_refl _) (.cells #[.int .u8 tt.v.k, .slice a.KA tt.v.K.length a.kc, .slice a.VA tt.v.V.length a.vc] 72))).far hg7 (fun e9 => by have := HROW.out _ e9; omega); have y0 := T7.c0; have y1 := T7.c1; have g1 := T7.fz 1; have L7 := Lib.hid hl7; have q7 := Lib.hid ((hr5.new (below_alloc1 (Below.refl _ _) (Nat.le_refl _) (.cells #[.int .u8 tt.v.k, .slice a.KA tt.v.K.length a.kc, .slice a.VA tt.v.V.length a.vc] 72))).far hg7 (fun k hk e9 => by have := HROW.out _ e9; have := hf1.hi k hk; omega)); have B7 := Lib.hid ((belowA B5.out (.cells #[.int .u8 tt.v.k, .slice a.KA tt.v.K.length a.kc, .slice a.VA tt.v.V.length a.vc] 72)).grown hg7 (belowA B5.out (.cells #[.int .u8 tt.v.k, .slice a.KA tt.v.K.length a.kc, .slice a.VA tt.v.V.length a.vc] 72)).size (fun k e9 => by have := HROW.out _ e9; omega)); have z7 := hg7.size))
        all_goals refine NoPanic.normal ?_
        all_goals
          go_wp2
          go_roundw
          case rel => exact ⟨j + 1, tt.at_, es ++ [(tt.v, a)], A', c', by omega, by go_num, T7.set1 _, O7.other (by omega), L7.out.setLow (by omega), SP7.out.setLow (by omega), q7.out.setBox HN0.out, belowS (g := w.heap.size) B7.out (Nat.le_refl _) _, by have h8 : wr.heap.size ≤ w5.heap.size := s5; have h9 := z7; rw [asz] at h9; simp [World.setCell]; omega, Lib.hid (by rw [HEQ.out]; simp [ensOf])⟩
          case measure => simp [intOf]; omega
      · have hEQ := HEQ.out
        rw [if_pos he] at hEQ
        have HT9 : Hid (t = batNo tt.e) := Lib.hid (by rw [← HBF.out]; unfold batF; rw [hEQ]; simp only; rw [if_pos he])
        have HE : Hid ((tt.e : Int) ≠ 0) := Lib.hid (by omega)
        have HE1 := Lib.hid he
        clear hEQ he hsucc HEQ
        go_wp2
        refine wp_region_any (by kernel_rfl) ?_
        refine wpAny_ready (rs := [0, 2]) (by kernel_rfl) (by simp) ?_
        refine AllReady.cons rfl (fun K hK => ?_) (AllReady.cons rfl (fun K hK => ?_) AllReady.nil)
        · go_simp
          refine hK _ _ ?_
          clear hK K
          refine wpAny_ready (rs := [1, 2]) (by kernel_rfl) (by simp) ?_
          refine AllReady.cons rfl (fun K hK => ?_) (AllReady.cons rfl (fun K hK => ?_) AllReady.nil)
          · go_simp
            refine hK _ _ ?_
            clear hK K
            refine wpAny_ready (rs := [2]) (by kernel_rfl) (by simp) ?_
            refine AllReady.cons rfl (fun K hK => ?_) AllReady.nil
            · go_simp
              refine hK _ _ ?_
              clear hK K
              refine wpAny_ready (rs := [3]) (by kernel_rfl) (by simp) ?_
              refine AllReady.cons rfl (fun K hK => ?_) AllReady.nil
              · go_simp
                refine (etake_no F b P at_ _ (HRd.new (below_drew _ _)) HFL.out hl tt HTT2.out HE1.out).mono ?_
                rintro r5 w5 ⟨rfl, hw5⟩
                go_simp
                have T5 := (HTT.new (below_drew _ _)).stepE hw5.step HN0.out
                have O5 := (HOO.new (below_drew _ _)).stepE hw5.step (fun e9 => by have := HF0.out _ e9; omega)
                have BB := Lib.hid (HBB.drew.trans (hw5.step.below (B := w.heap.size) HBB.size (fun k hk => by have := HF0.out _ hk; omega)))
                have O6 := (O5.new (below_alloc1 (Below.refl _ _) (Nat.le_refl _) (.cells #[.int .i64 tt.e] 198))).set (.int .i64 tt.e)
                have T6 := (T5.new (below_alloc1 (Below.refl _ _) (Nat.le_refl _) (.cells #[.int .i64 tt.e] 198))).other (g := w.heap.size + 1) (j := 0) (u := .int .i64 tt.e) (by omega)
                refine leaves_cons (f := 103) (args := #[.pointer (some ⟨w.heap.size + 1, 0, none⟩)]) (by simp) (by simp [go_sem]) ?_
                refine (caught_panic _ _ _ _ O5.c0 (O5.fz 0)).mono ?_
                rintro r6 u6 w6 ⟨rfl, rfl, rfl⟩
                refine leaves_cons (f := 102) (args := #[.pointer (some ⟨w.heap.size + 1, 0, none⟩), .pointer (some ⟨w.heap.size, 0, none⟩)]) (by simp [settle]) (by simp [go_sem]) ?_
                refine (undoB_no _ w.heap.size _ HE.out _ _ _ _ O6.c0 T6).mono ?_
                rintro r7 u7 w7 ⟨rfl, rfl, rfl⟩
                show Leaves _ _ _ _ [] .returning _
                have T7 := (T6.set0 (.int .u64 0)).set1 (.slice none 0 0)
                have O7 := (O6.other (g := w.heap.size) (j := 0) (u := .int .u64 0) (by omega)).other (g := w.heap.size) (j := 1) (u := .slice none 0 0) (by omega)
                refine ⟨_, results_batch rfl _ _ w.heap.size (w.heap.size + 1) _ _ _ rfl rfl T7 O7.c0, none, 0, by rw [HT9.out]; rfl, ⟨[], 0, by rw [HT9.out]; rfl, by rw [HT9.out]; rfl, EL.nil _ _, SepE.nil _ _⟩, ?_⟩
                exact ((((BB.out.alloc BB.out.size (.cells #[.int .i64 tt.e] 198)).setCell (by show w.heap.size ≤ w.heap.size + 1; omega) _)).setCell (Nat.le_refl _) _).setCell (Nat.le_refl _) _
          · go_simp
            refine hK _ _ ?_
            clear hK K
            refine wpAny_ready (rs := [1, 3]) (by kernel_rfl) (by simp) ?_
            refine AllReady.cons rfl (fun K hK => ?_) (AllReady.cons rfl (fun K hK => ?_) AllReady.nil)
            · go_simp
              refine hK _ _ ?_
              clear hK K
              refine wpAny_ready (rs := [3]) (by kernel_rfl) (by simp) ?_
              refine AllReady.cons rfl (fun K hK => ?_) AllReady.nil
              · go_simp
                refine (etake_no F b P at_ _ (HRd.new (below_drew _ _)) HFL.out hl tt HTT2.out HE1.out).mono ?_
                rintro r5 w5 ⟨rfl, hw5⟩
                go_simp
                have T5 := (HTT.new (below_drew _ _)).stepE hw5.step HN0.out
                have O5 := (HOO.new (below_drew _ _)).stepE hw5.step (fun e9 => by have := HF0.out _ e9; omega)
                have BB := Lib.hid (HBB.drew.trans (hw5.step.below (B := w.heap.size) HBB.size (fun k hk => by have := HF0.out _ hk; omega)))
                have O6 := (O5.new (below_alloc1 (Below.refl _ _) (Nat.le_refl _) (.cells #[.int .i64 tt.e] 198))).set (.int .i64 tt.e)
                have T6 := (T5.new (below_alloc1 (Below.refl _ _) (Nat.le_refl _) (.cells #[.int .i64 tt.e] 198))).other (g := w.heap.size + 1) (j := 0) (u := .int .i64 tt.e) (by omega)
                refine leaves_cons (f := 103) (args := #[.pointer (some ⟨w.heap.size + 1, 0, none⟩)]) (by simp) (by simp [go_sem]) ?_
                refine (caught_panic _ _ _ _ O5.c0 (O5.fz 0)).mono ?_
                rintro r6 u6 w6 ⟨rfl, rfl, rfl⟩
                refine leaves_cons (f := 102) (args := #[.pointer (some ⟨w.heap.size + 1, 0, none⟩), .pointer (some ⟨w.heap.size, 0, none⟩)]) (by simp [settle]) (by simp [go_sem]) ?_
                refine (undoB_no _ w.heap.size _ HE.out _ _ _ _ O6.c0 T6).mono ?_
                rintro r7 u7 w7 ⟨rfl, rfl, rfl⟩
                show Leaves _ _ _ _ [] .returning _
                have T7 := (T6.set0 (.int .u64 0)).set1 (.slice none 0 0)
                have O7 := (O6.other (g := w.heap.size) (j := 0) (u := .int .u64 0) (by omega)).other (g := w.heap.size) (j := 1) (u := .slice none 0 0) (by omega)
                refine ⟨_, results_batch rfl _ _ w.heap.size (w.heap.size + 1) _ _ _ rfl rfl T7 O7.c0, none, 0, by rw [HT9.out]; rfl, ⟨[], 0, by rw [HT9.out]; rfl, by rw [HT9.out]; rfl, EL.nil _ _, SepE.nil _ _⟩, ?_⟩
                exact ((((BB.out.alloc BB.out.size (.cells #[.int .i64 tt.e] 198)).setCell (by show w.heap.size ≤ w.heap.size + 1; omega) _)).setCell (Nat.le_refl _) _).setCell (Nat.le_refl _) _
            · go_simp
              refine (etake_no F b P at_ _ (HRd.new (below_drew _ _)) HFL.out hl tt HTT2.out HE1.out).mono ?_
              rintro r5 w5 ⟨rfl, hw5⟩
              go_simp
              have T5 := (HTT.new (below_drew _ _)).stepE hw5.step HN0.out
              have O5 := (HOO.new (below_drew _ _)).stepE hw5.step (fun e9 => by have := HF0.out _ e9; omega)
              have BB := Lib.hid (HBB.drew.trans (hw5.step.below (B := w.heap.size) HBB.size (fun k hk => by have := HF0.out _ hk; omega)))
              have O6 := (O5.new (below_alloc1 (Below.refl _ _) (Nat.le_refl _) (.cells #[.int .i64 tt.e] 198))).set (.int .i64 tt.e)
              have T6 := (T5.new (below_alloc1 (Below.refl _ _) (Nat.le_refl _) (.cells #[.int .i64 tt.e] 198))).other (g := w.heap.size + 1) (j := 0) (u := .int .i64 tt.e) (by omega)
              refine leaves_cons (f := 103) (args := #[.pointer (some ⟨w.heap.size + 1, 0, none⟩)]) (by simp) (by simp [go_sem]) ?_
              refine (caught_panic _ _ _ _ O5.c0 (O5.fz 0)).mono ?_
              rintro r6 u6 w6 ⟨rfl, rfl, rfl⟩
              refine leaves_cons (f := 102) (args := #[.pointer (some ⟨w.heap.size + 1, 0, none⟩), .pointer (some ⟨w.heap.size, 0, none⟩)]) (by simp [settle]) (by simp [go_sem]) ?_
              refine (undoB_no _ w.heap.size _ HE.out _ _ _ _ O6.c0 T6).mono ?_
              rintro r7 u7 w7 ⟨rfl, rfl, rfl⟩
              show Leaves _ _ _ _ [] .returning _
              have T7 := (T6.set0 (.int .u64 0)).set1 (.slice none 0 0)
              have O7 := (O6.other (g := w.heap.size) (j := 0) (u := .int .u64 0) (by omega)).other (g := w.heap.size) (j := 1) (u := .slice none 0 0) (by omega)
              refine ⟨_, results_batch rfl _ _ w.heap.size (w.heap.size + 1) _ _ _ rfl rfl T7 O7.c0, none, 0, by rw [HT9.out]; rfl, ⟨[], 0, by rw [HT9.out]; rfl, by rw [HT9.out]; rfl, EL.nil _ _, SepE.nil _ _⟩, ?_⟩
              exact ((((BB.out.alloc BB.out.size (.cells #[.int .i64 tt.e] 198)).setCell (by show w.heap.size ≤ w.heap.size + 1; omega) _)).setCell (Nat.le_refl _) _).setCell (Nat.le_refl _) _
        · go_simp
          refine hK _ _ ?_
          clear hK K
          refine wpAny_ready (rs := [0, 3]) (by kernel_rfl) (by simp) ?_
          refine AllReady.cons rfl (fun K hK => ?_) (AllReady.cons rfl (fun K hK => ?_) AllReady.nil)
          · go_simp
            refine hK _ _ ?_
            clear hK K
            refine wpAny_ready (rs := [1, 3]) (by kernel_rfl) (by simp) ?_
            refine AllReady.cons rfl (fun K hK => ?_) (AllReady.cons rfl (fun K hK => ?_) AllReady.nil)
            · go_simp
              refine hK _ _ ?_
              clear hK K
              refine wpAny_ready (rs := [3]) (by kernel_rfl) (by simp) ?_
              refine AllReady.cons rfl (fun K hK => ?_) AllReady.nil
              · go_simp
                refine (etake_no F b P at_ _ (HRd.new (below_drew _ _)) HFL.out hl tt HTT2.out HE1.out).mono ?_
                rintro r5 w5 ⟨rfl, hw5⟩
                go_simp
                have T5 := (HTT.new (below_drew _ _)).stepE hw5.step HN0.out
                have O5 := (HOO.new (below_drew _ _)).stepE hw5.step (fun e9 => by have := HF0.out _ e9; omega)
                have BB := Lib.hid (HBB.drew.trans (hw5.step.below (B := w.heap.size) HBB.size (fun k hk => by have := HF0.out _ hk; omega)))
                have O6 := (O5.new (below_alloc1 (Below.refl _ _) (Nat.le_refl _) (.cells #[.int .i64 tt.e] 198))).set (.int .i64 tt.e)
                have T6 := (T5.new (below_alloc1 (Below.refl _ _) (Nat.le_refl _) (.cells #[.int .i64 tt.e] 198))).other (g := w.heap.size + 1) (j := 0) (u := .int .i64 tt.e) (by omega)
                refine leaves_cons (f := 103) (args := #[.pointer (some ⟨w.heap.size + 1, 0, none⟩)]) (by simp) (by simp [go_sem]) ?_
                refine (caught_panic _ _ _ _ O5.c0 (O5.fz 0)).mono ?_
                rintro r6 u6 w6 ⟨rfl, rfl, rfl⟩
                refine leaves_cons (f := 102) (args := #[.pointer (some ⟨w.heap.size + 1, 0, none⟩), .pointer (some ⟨w.heap.size, 0, none⟩)]) (by simp [settle]) (by simp [go_sem]) ?_
                refine (undoB_no _ w.heap.size _ HE.out _ _ _ _ O6.c0 T6).mono ?_
                rintro r7 u7 w7 ⟨rfl, rfl, rfl⟩
                show Leaves _ _ _ _ [] .returning _
                have T7 := (T6.set0 (.int .u64 0)).set1 (.slice none 0 0)
                have O7 := (O6.other (g := w.heap.size) (j := 0) (u := .int .u64 0) (by omega)).other (g := w.heap.size) (j := 1) (u := .slice none 0 0) (by omega)
                refine ⟨_, results_batch rfl _ _ w.heap.size (w.heap.size + 1) _ _ _ rfl rfl T7 O7.c0, none, 0, by rw [HT9.out]; rfl, ⟨[], 0, by rw [HT9.out]; rfl, by rw [HT9.out]; rfl, EL.nil _ _, SepE.nil _ _⟩, ?_⟩
                exact ((((BB.out.alloc BB.out.size (.cells #[.int .i64 tt.e] 198)).setCell (by show w.heap.size ≤ w.heap.size + 1; omega) _)).setCell (Nat.le_refl _) _).setCell (Nat.le_refl _) _
            · go_simp
              refine (etake_no F b P at_ _ (HRd.new (below_drew _ _)) HFL.out hl tt HTT2.out HE1.out).mono ?_
              rintro r5 w5 ⟨rfl, hw5⟩
              go_simp
              have T5 := (HTT.new (below_drew _ _)).stepE hw5.step HN0.out
              have O5 := (HOO.new (below_drew _ _)).stepE hw5.step (fun e9 => by have := HF0.out _ e9; omega)
              have BB := Lib.hid (HBB.drew.trans (hw5.step.below (B := w.heap.size) HBB.size (fun k hk => by have := HF0.out _ hk; omega)))
              have O6 := (O5.new (below_alloc1 (Below.refl _ _) (Nat.le_refl _) (.cells #[.int .i64 tt.e] 198))).set (.int .i64 tt.e)
              have T6 := (T5.new (below_alloc1 (Below.refl _ _) (Nat.le_refl _) (.cells #[.int .i64 tt.e] 198))).other (g := w.heap.size + 1) (j := 0) (u := .int .i64 tt.e) (by omega)
              refine leaves_cons (f := 103) (args := #[.pointer (some ⟨w.heap.size + 1, 0, none⟩)]) (by simp) (by simp [go_sem]) ?_
              refine (caught_panic _ _ _ _ O5.c0 (O5.fz 0)).mono ?_
              rintro r6 u6 w6 ⟨rfl, rfl, rfl⟩
              refine leaves_cons (f := 102) (args := #[.pointer (some ⟨w.heap.size + 1, 0, none⟩), .pointer (some ⟨w.heap.size, 0, none⟩)]) (by simp [settle]) (by simp [go_sem]) ?_
              refine (undoB_no _ w.heap.size _ HE.out _ _ _ _ O6.c0 T6).mono ?_
              rintro r7 u7 w7 ⟨rfl, rfl, rfl⟩
              show Leaves _ _ _ _ [] .returning _
              have T7 := (T6.set0 (.int .u64 0)).set1 (.slice none 0 0)
              have O7 := (O6.other (g := w.heap.size) (j := 0) (u := .int .u64 0) (by omega)).other (g := w.heap.size) (j := 1) (u := .slice none 0 0) (by omega)
              refine ⟨_, results_batch rfl _ _ w.heap.size (w.heap.size + 1) _ _ _ rfl rfl T7 O7.c0, none, 0, by rw [HT9.out]; rfl, ⟨[], 0, by rw [HT9.out]; rfl, by rw [HT9.out]; rfl, EL.nil _ _, SepE.nil _ _⟩, ?_⟩
              exact ((((BB.out.alloc BB.out.size (.cells #[.int .i64 tt.e] 198)).setCell (by show w.heap.size ≤ w.heap.size + 1; omega) _)).setCell (Nat.le_refl _) _).setCell (Nat.le_refl _) _
          · go_simp
            refine (etake_no F b P at_ _ (HRd.new (below_drew _ _)) HFL.out hl tt HTT2.out HE1.out).mono ?_
            rintro r5 w5 ⟨rfl, hw5⟩
            go_simp
            have T5 := (HTT.new (below_drew _ _)).stepE hw5.step HN0.out
            have O5 := (HOO.new (below_drew _ _)).stepE hw5.step (fun e9 => by have := HF0.out _ e9; omega)
            have BB := Lib.hid (HBB.drew.trans (hw5.step.below (B := w.heap.size) HBB.size (fun k hk => by have := HF0.out _ hk; omega)))
            have O6 := (O5.new (below_alloc1 (Below.refl _ _) (Nat.le_refl _) (.cells #[.int .i64 tt.e] 198))).set (.int .i64 tt.e)
            have T6 := (T5.new (below_alloc1 (Below.refl _ _) (Nat.le_refl _) (.cells #[.int .i64 tt.e] 198))).other (g := w.heap.size + 1) (j := 0) (u := .int .i64 tt.e) (by omega)
            refine leaves_cons (f := 103) (args := #[.pointer (some ⟨w.heap.size + 1, 0, none⟩)]) (by simp) (by simp [go_sem]) ?_
            refine (caught_panic _ _ _ _ O5.c0 (O5.fz 0)).mono ?_
            rintro r6 u6 w6 ⟨rfl, rfl, rfl⟩
            refine leaves_cons (f := 102) (args := #[.pointer (some ⟨w.heap.size + 1, 0, none⟩), .pointer (some ⟨w.heap.size, 0, none⟩)]) (by simp [settle]) (by simp [go_sem]) ?_
            refine (undoB_no _ w.heap.size _ HE.out _ _ _ _ O6.c0 T6).mono ?_
            rintro r7 u7 w7 ⟨rfl, rfl, rfl⟩
            show Leaves _ _ _ _ [] .returning _
            have T7 := (T6.set0 (.int .u64 0)).set1 (.slice none 0 0)
            have O7 := (O6.other (g := w.heap.size) (j := 0) (u := .int .u64 0) (by omega)).other (g := w.heap.size) (j := 1) (u := .slice none 0 0) (by omega)
            refine ⟨_, results_batch rfl _ _ w.heap.size (w.heap.size + 1) _ _ _ rfl rfl T7 O7.c0, none, 0, by rw [HT9.out]; rfl, ⟨[], 0, by rw [HT9.out]; rfl, by rw [HT9.out]; rfl, EL.nil _ _, SepE.nil _ _⟩, ?_⟩
            exact ((((BB.out.alloc BB.out.size (.cells #[.int .i64 tt.e] 198)).setCell (by show w.heap.size ≤ w.heap.size + 1; omega) _)).setCell (Nat.le_refl _) _).setCell (Nat.le_refl _) _
    · obtain rfl : j = m := by omega
      have hEQ := HEQ.out
      rw [Nat.sub_self, entsS] at hEQ
      simp only [List.append_nil] at hEQ
      have hA0 : w.heap.size + 1 < w1.heap.size := O1.lt
      have hcap := HEL.cap
      have hlen := HEL.len
      have hjm : j ≤ 9223372036854775807 := by omega
      clear hlt HEQ
      obtain ⟨d, hd⟩ : ∃ d, d = doneE P at_ 0 := ⟨_, rfl⟩
      have HD := Lib.hid (show (d : Int) = (doneE P at_ 0 : Nat) by rw [hd])
      by_cases hd0 : d = 0
      · have HT9 : Hid (t = ⟨0, f, ensOf es⟩) := Lib.hid (by
          rw [← HBF.out]; unfold batF; rw [hEQ]; simp only; rw [if_neg (by simp), if_neg (by rw [← hd, hd0]; simp)])
        have HD0 := Lib.hid (show (0 : Int) = (doneE P at_ 0 : Nat) by rw [← hd, hd0]; rfl)
        have HLN := Lib.hid (show (ensOf es).length = j by unfold ensOf; rw [List.length_map]; exact hlen.symm)
        clear hEQ hd hd0 hlen
        go_wp2_with (first
          | (go_at_call 101; go_loud (with_reducible refine (doneN F b P at_ 0 0 HD0.out _ HRd).mono ?_); rintro e8 w8 ⟨rfl, hd8⟩; have T8 := HTT.new (hd8.below _); have O8 := HOO.new (hd8.below _); have y0 := T8.c0; have y1 := T8.c1; have g0 := T8.fz 0; have g1 := T8.fz 1; have o0 := O8.c0; have o1 := O8.fz 0; have B8 := Lib.hid (HBB.trans (hd8.below _)); have L8 := Lib.hid (HEL.new (hd8.below _)); have SP8 := Lib.hid (HSP.new (hd8.below _)))
          | (go_at_call 105; (with_reducible refine (refuse_ok _).mono ?_); rintro r2 w4 ⟨rfl, rfl⟩)
          | (go_at_call 108; go_loud (with_reducible refine (clip_calls A1 j c1 hcap hjm _).mono ?_); rintro r9 w9 ⟨rfl, rfl⟩))
        have T9 := ((((T8.set1 (.slice A1 j j)).set0 (.int .u64 f)).set1 (.slice A1 j j)).other (g := w.heap.size + 1) (j := 0) (u := .int .i64 0) (by omega))
        have O9 := (((O8.other (g := w.heap.size) (j := 1) (u := .slice A1 j j) (by omega)).other (g := w.heap.size) (j := 0) (u := .int .u64 f) (by omega)).other (g := w.heap.size) (j := 1) (u := .slice A1 j j) (by omega)).set (.int .i64 0)
        have SP9 := (((SP8.out.setLow (g := w.heap.size) (j := 1) (u := .slice A1 j j) (by omega)).setLow (g := w.heap.size) (j := 0) (u := .int .u64 f) (by omega)).setLow (g := w.heap.size) (j := 1) (u := .slice A1 j j) (by omega)).setLow (g := w.heap.size + 1) (j := 0) (u := .int .i64 0) (by omega)
        have L9 := (((L8.out.setLow (g := w.heap.size) (j := 1) (u := .slice A1 j j) (by omega)).setLow (g := w.heap.size) (j := 0) (u := .int .u64 f) (by omega)).setLow (g := w.heap.size) (j := 1) (u := .slice A1 j j) (by omega)).setLow (g := w.heap.size + 1) (j := 0) (u := .int .i64 0) (by omega)
        refine leaves_cons (f := 103) (args := #[.pointer (some ⟨w.heap.size + 1, 0, none⟩)]) (by simp) (by simp [go_sem]) ?_
        refine (caught_idle _ _).mono ?_
        rintro r6 u6 w6 ⟨rfl, rfl, rfl⟩
        refine leaves_cons (f := 102) (args := #[.pointer (some ⟨w.heap.size + 1, 0, none⟩), .pointer (some ⟨w.heap.size, 0, none⟩)]) (by simp [settle]) (by simp [go_sem]) ?_
        refine (undoB_ok _ _ _ _ O9.c0).mono ?_
        rintro r7 u7 w7 ⟨rfl, rfl, rfl⟩
        show Leaves _ _ _ _ [] .returning _
        refine ⟨_, results_batch rfl _ _ w.heap.size (w.heap.size + 1) _ _ _ rfl rfl T9 O9.c0, A1, j, by rw [HT9.out]; simp only [HLN.out]; rfl, ⟨es, c1, by rw [HT9.out], by rw [HT9.out]; simp [ensOf], by rw [← L9.len]; exact L9.monoK (by omega), SP9.sep.mono (by omega)⟩, ?_⟩
        exact belowS (g := w.heap.size + 1) (belowS (g := w.heap.size) (belowS (g := w.heap.size) (belowS (g := w.heap.size) B8.out (Nat.le_refl _) _) (Nat.le_refl _) _) (Nat.le_refl _) _) (Nat.le_succ _) _
      · have HT9 : Hid (t = batNo d) := Lib.hid (by
          rw [← HBF.out]; unfold batF; rw [hEQ]; simp only; rw [if_neg (by simp), if_pos (by rw [← hd]; exact hd0), ← hd])
        have HE : Hid ((d : Int) ≠ 0) := Lib.hid (by omega)
        clear hEQ hd hd0 hlen
        go_wp2_with (first
          | (go_at_call 101; go_loud (with_reducible refine (doneN F b P at_ 0 d HD.out _ HRd).mono ?_); rintro e8 w8 ⟨rfl, hd8⟩; have T8 := HTT.new (hd8.below _); have O8 := HOO.new (hd8.below _); have B8 := Lib.hid (HBB.trans (hd8.below _)))
          | (go_at_call 105; (with_reducible refine (refuse_no d HE.out _).mono ?_); rintro r2 w4 ⟨rfl, rfl⟩))
        have T5 := T8
        have O5 := O8
        have BB := B8
        have O6 := (O5.new (below_alloc1 (Below.refl _ _) (Nat.le_refl _) (.cells #[.int .i64 d] 198))).set (.int .i64 d)
        have T6 := (T5.new (below_alloc1 (Below.refl _ _) (Nat.le_refl _) (.cells #[.int .i64 d] 198))).other (g := w.heap.size + 1) (j := 0) (u := .int .i64 d) (by omega)
        refine leaves_cons (f := 103) (args := #[.pointer (some ⟨w.heap.size + 1, 0, none⟩)]) (by simp) (by simp [go_sem]) ?_
        refine (caught_panic _ _ _ _ O5.c0 (O5.fz 0)).mono ?_
        rintro r6 u6 w6 ⟨rfl, rfl, rfl⟩
        refine leaves_cons (f := 102) (args := #[.pointer (some ⟨w.heap.size + 1, 0, none⟩), .pointer (some ⟨w.heap.size, 0, none⟩)]) (by simp [settle]) (by simp [go_sem]) ?_
        refine (undoB_no _ w.heap.size _ HE.out _ _ _ _ O6.c0 T6).mono ?_
        rintro r7 u7 w7 ⟨rfl, rfl, rfl⟩
        show Leaves _ _ _ _ [] .returning _
        have T7 := (T6.set0 (.int .u64 0)).set1 (.slice none 0 0)
        have O7 := (O6.other (g := w.heap.size) (j := 0) (u := .int .u64 0) (by omega)).other (g := w.heap.size) (j := 1) (u := .slice none 0 0) (by omega)
        refine ⟨_, results_batch rfl _ _ w.heap.size (w.heap.size + 1) _ _ _ rfl rfl T7 O7.c0, none, 0, by rw [HT9.out]; rfl, ⟨[], 0, by rw [HT9.out]; rfl, by rw [HT9.out]; rfl, EL.nil _ _, SepE.nil _ _⟩, ?_⟩
        exact ((((BB.out.alloc BB.out.size (.cells #[.int .i64 d] 198)).setCell (by show w.heap.size ≤ w.heap.size + 1; omega) _)).setCell (Nat.le_refl _) _).setCell (Nat.le_refl _) _
theorem batNo_calls {P : Program} {f : Nat} {args : Array Value} {w : World} {e : Nat} {t : Bat} (ht : batNo e = t) (h : Calls P f args w fun r w' => r = .returned (.tuple #[.agg #[.int .u64 0, .slice none 0 0], .int .i64 e]) ∧ Below w.heap.size w w') :
    Calls P f args w fun r w' => ∃ A' c', r = .returned (.tuple #[.agg #[.int .u64 t.f, .slice A' t.l.length c'], .int .i64 t.e]) ∧ BatK w w' A' t.l.length t.l := by
  subst ht
  exact h.mono fun r w' ⟨h1, h2⟩ => ⟨none, 0, h1, ⟨[], 0, rfl, rfl, EL.nil _ _, SepE.nil _ _⟩, h2⟩
theorem decodeBK_calls (A : Option Addr) (P : List UInt8) (n c : Nat) (w : World) (hp : RB w A c P) (hn : n = P.length) (hl : P.length ≤ 140737488355328) (t : Bat) (ht : decB P = t) :
    Calls Tryz.prog 58 #[.slice A n c] w fun r w' => ∃ A' c', r = .returned (.tuple #[.agg #[.int .u64 t.f, .slice A' t.l.length c'], .int .i64 t.e]) ∧ BatK w w' A' t.l.length t.l := by
  unfold decB at ht
  have hf := uvarS_lt P 0 0
  generalize hU1 : uvarS P 0 0 = u1 at *
  obtain ⟨f, a1, e1⟩ := u1
  simp only at ht hf
  by_cases h1 : e1 ≠ 0
  · rw [if_pos h1] at ht
    exact batNo_calls ht (batch_n1 A P n c w hp hn hl f a1 e1 hU1 h1)
  · rw [if_neg h1] at ht
    obtain rfl : e1 = 0 := by omega
    generalize hU2 : uvarS P a1 0 = u2 at *
    obtain ⟨m, a2, e2⟩ := u2
    simp only at ht
    by_cases h2 : e2 ≠ 0
    · rw [if_pos h2] at ht
      exact batNo_calls ht (batch_n2 A P n c w hp hn hl f a1 m a2 e2 hU1 hU2 h2)
    · rw [if_neg h2] at ht
      obtain rfl : e2 = 0 := by omega
      by_cases h3 : 64 < m
      · rw [if_pos h3] at ht
        exact batNo_calls ht (batch_n3 A P n c w hp hn hl f a1 m a2 hU1 hU2 h3)
      · rw [if_neg h3] at ht
        by_cases h4 : m = 0
        · rw [if_pos (.inl h4)] at ht
          exact batNo_calls ht (batch_n4a A P n c w hp hn hl f a1 m a2 hU1 hU2 h4)
        · by_cases h5 : 18446744073709551616 ≤ f + m
          · rw [if_pos (.inr h5)] at ht
            exact batNo_calls ht (batch_n4b A P n c w hp hn hl f a1 m a2 hU1 hU2 hf (by omega) h4 h5)
          · rw [if_neg (by omega)] at ht
            exact batch_main A P n c w hp hn hl f a1 m a2 hU1 hU2 hf (by omega) h4 (by omega) t ht
theorem decodeB_calls (A : Option Addr) (P : List UInt8) (n c : Nat) (w : World) (hp : RB w A c P) (hn : n = P.length) (hl : P.length ≤ 140737488355328) (t : Bat) (ht : decB P = t) :
    Calls Tryz.prog 58 #[.slice A n c] w fun r w' => ∃ A' c', r = .returned (.tuple #[.agg #[.int .u64 t.f, .slice A' t.l.length c'], .int .i64 t.e]) ∧ BatAt w w' A' t.l.length t.l :=
  (decodeBK_calls A P n c w hp hn hl t ht).mono fun _ _ ⟨A', c', h1, h2⟩ => ⟨A', c', h1, h2.at⟩
end Go.Proofs.YtpmnnnbkbcpgjaaGreatDoor

/- The walk of entry.EncodeBatch. -/
namespace Go.Proofs.YtpmnnnbkbcpgjaaGreatDoor
open Go.RowKit
open WireMath (numS beN rawS blobS uvarS grpL uvarL wideL)

def leastF (a b : Nat) : Nat := if a = 0 ∨ (b ≠ 0 ∧ b < a) then b else a
theorem least_calls (a b : Nat) (w : World) : Calls Tryz.prog 85 #[.int .i64 a, .int .i64 b] w fun e w' => e = .returned (.int .i64 (leastF a b)) ∧ w = w' := by
  by_cases ha : a = 0
  · have h1 : ((a : Int) == 0) = true := by rw [beq_iff_eq]; omega
    have HF := Lib.hid (show b = leastF a b by unfold leastF; rw [if_pos (.inl ha)])
    clear ha
    go_enter Tryz.func85, Tryz.ntmps85
    go_wp2
    go_ret
    exact ⟨ret_int (by rw [← HF.out]), rfl⟩
  · have h1 : ((a : Int) == 0) = false := by rw [beq_eq_false_iff_ne]; omega
    by_cases hb : b = 0
    · have h2 : ((b : Int) != 0) = false := by rw [bne_eq_false_iff_eq]; omega
      have HF := Lib.hid (show a = leastF a b by unfold leastF; rw [if_neg (by omega)])
      clear ha hb
      go_enter Tryz.func85, Tryz.ntmps85
      go_wp2
      go_ret
      exact ⟨ret_int (by rw [← HF.out]), rfl⟩
    · have h2 : ((b : Int) != 0) = true := by rw [bne_iff_ne]; omega
      by_cases hlt : b < a
      · have HF := Lib.hid (show b = leastF a b by unfold leastF; rw [if_pos (.inr ⟨hb, hlt⟩)])
        clear ha hb
        go_enter Tryz.func85, Tryz.ntmps85
        go_wp2
        go_ret
        exact ⟨ret_int (by rw [← HF.out]), rfl⟩
      · have HF := Lib.hid (show a = leastF a b by unfold leastF; rw [if_neg (by omega)])
        clear ha hb
        go_enter Tryz.func85, Tryz.ntmps85
        go_wp2
        go_ret
        exact ⟨ret_int (by rw [← HF.out]), rfl⟩
theorem leastN (a b : Nat) (X Y : Int) (hX : X = a) (hY : Y = b) (r : Nat) (hr : leastF a b = r) (w : World) : Calls Tryz.prog 85 #[.int .i64 X, .int .i64 Y] w fun e w' => e = .returned (.int .i64 r) ∧ w = w' := by
  subst hX; subst hY; subst hr; exact least_calls a b w
/-- the error of a batch -/
def err0 (f n : Nat) : Nat := if n = 0 ∨ 18446744073709551616 ≤ f + n then leastF (if 64 < n then 2 else 0) 3 else if 64 < n then 2 else 0
def errB (f n : Nat) (l : List En) : Nat := l.foldl (fun e x => leastF e (chkF x)) (err0 f n)
def encBL (f : Nat) (l : List En) : List UInt8 := uvarL f ++ (uvarL l.length ++ l.flatMap encL)
def encBF (f : Nat) (l : List En) : List UInt8 × Nat := if errB f l.length l = 0 then (encBL f l, 0) else ([], errB f l.length l)
theorem leastF_zero (a b : Nat) (h : leastF a b = 0) : a = 0 ∧ b = 0 := by
  unfold leastF at h
  split at h <;> omega
theorem fold_zero (l : List En) : ∀ e, l.foldl (fun e x => leastF e (chkF x)) e = 0 → e = 0 ∧ ∀ x ∈ l, chkF x = 0 := by
  induction l with
  | nil => intro e h; exact ⟨h, fun x hx => by simp at hx⟩
  | cons y l ih =>
    intro e h
    obtain ⟨h1, h2⟩ := ih _ h
    obtain ⟨h3, h4⟩ := leastF_zero _ _ h1
    refine ⟨h3, fun x hx => ?_⟩
    rcases List.mem_cons.1 hx with rfl | hx
    · exact h4
    · exact h2 x hx
theorem err0_zero (f n : Nat) (h : err0 f n = 0) : n ≠ 0 ∧ f + n < 18446744073709551616 ∧ n ≤ 64 := by
  unfold err0 at h
  split at h
  · have := (leastF_zero _ _ h).2; omega
  · split at h <;> omega
theorem ensOf_take (es : List EnX) (j : Nat) (e : En) (x : EnA) (h : es[j]? = some (e, x)) : ensOf (es.take (j + 1)) = ensOf (es.take j) ++ [e] := by
  obtain ⟨hj, hx⟩ := List.getElem?_eq_some_iff.1 h
  unfold ensOf
  rw [List.take_succ_eq_append_getElem hj, List.map_append, hx]; rfl
theorem flat_le (l : List En) (h : ∀ x ∈ l, chkF x = 0) : (l.flatMap encL).length ≤ 341 * l.length := by
  induction l with
  | nil => simp
  | cons y l ih =>
    have h1 := chk_small y (h y (List.mem_cons_self ..))
    have h2 := encL_length y
    have h3 := ih fun x hx => h x (List.mem_cons_of_mem _ hx)
    simp only [List.flatMap_cons, List.length_append, List.length_cons]
    omega

set_option maxHeartbeats 1000000 in
set_option maxRecDepth 100000 in
theorem encB_calls (f : Nat) (V : Int) (hV : V = f) (hf : f ≤ 18446744073709551615) (A : Option Addr) (n c : Nat) (es : List EnX) (w : World) (h : Ents w A es) (hn : n = es.length) (hl : n ≤ 9223372036854775807) (q : List UInt8) (eE : Nat) (hq : encBF f (ensOf es) = (q, eE)) :
    Calls Tryz.prog 52 #[.agg #[.int .u64 V, .slice A n c]] w fun r w' => ∃ A' c', r = .returned (.tuple #[.slice A' q.length c', .int .i64 eE]) ∧ NewB w w' (.slice A' q.length c') q := by
  subst hV
  have hen : (ensOf es).length = n := by rw [hn]; simp [ensOf]
  have HB := Lib.hid (below_alloc1 (Below.refl w.heap.size w) (Nat.le_refl _) (.cells #[.int .u64 f, .slice A n c] 35))
  have HT := Lib.hid (Duo.fresh w w.heap.size rfl (.int .u64 f) (.slice A n c) 35)
  have HQ := Lib.hid hq
  have HEN := Lib.hid hen
  have HN := Lib.hid hn
  have h3 := Lib.hid (show (3 : Int) = ((3 : Nat) : Int) from rfl)
  have h2 := Lib.hid (show (2 : Int) = ((2 : Nat) : Int) from rfl)
  have h0 := Lib.hid (show (0 : Int) = ((0 : Nat) : Int) from rfl)
  clear hq hen hn
  have hcase : (64 < n ∧ decide ((64 : Int) < (n : Int)) = true) ∨ (¬ 64 < n ∧ decide ((64 : Int) < (n : Int)) = false) := by
    by_cases h : 64 < n
    · exact .inl ⟨h, by rw [decide_eq_true_eq]; omega⟩
    · exact .inr ⟨h, by rw [decide_eq_false_iff_not]; omega⟩
  have hcase2 : (n = 0 ∧ ((n : Int) == 0) = true) ∨ (n ≠ 0 ∧ ((n : Int) == 0) = false ∧ f + n < 18446744073709551616) ∨ (n ≠ 0 ∧ ((n : Int) == 0) = false ∧ 18446744073709551616 ≤ f + n) := by
    by_cases h : n = 0
    · exact .inl ⟨h, by rw [beq_iff_eq]; omega⟩
    · by_cases h' : f + n < 18446744073709551616
      · exact .inr (.inl ⟨h, by rw [beq_eq_false_iff_ne]; omega, h'⟩)
      · exact .inr (.inr ⟨h, by rw [beq_eq_false_iff_ne]; omega, by omega⟩)
  obtain ⟨e0, he0⟩ : ∃ e0, e0 = err0 f n := ⟨_, rfl⟩
  have HE0 := Lib.hid he0
  obtain ⟨e64, he64⟩ : ∃ e64 : Nat, e64 = if 64 < n then 2 else 0 := ⟨_, rfl⟩
  have hE : (64 < n → e64 = 2) ∧ (¬ 64 < n → e64 = 0) ∧ (n = 0 ∨ 18446744073709551616 ≤ f + n → e0 = leastF e64 3) ∧ (¬ (n = 0 ∨ 18446744073709551616 ≤ f + n) → e0 = e64) := by
    refine ⟨fun h => by rw [he64, if_pos h], fun h => by rw [he64, if_neg h], fun h => ?_, fun h => ?_⟩
    · rw [he0, he64]; unfold err0; rw [if_pos h]
    · rw [he0, he64]; unfold err0; rw [if_neg h]
  clear he0 he64
  obtain ⟨X, hX⟩ : ∃ X : Nat, X = errB f n (ensOf es) := ⟨_, rfl⟩
  have HX := Lib.hid hX
  have HL := Lib.hid hl
  have hf9 : f ≤ 18446744073709551615 := hf
  clear hX
  rcases hcase with ⟨g1, b1⟩ | ⟨g1, b1⟩
  all_goals
    rcases hcase2 with ⟨g2, b2⟩ | ⟨g2, b2, g3⟩ | ⟨g2, b2, g3⟩
  all_goals
    first
      | (have e64' := hE.1 g1)
      | (have e64' := hE.2.1 g1)
    subst e64'
    first
      | (have H00 := Lib.hid (hE.2.2.1 (.inl g2)).symm; have HFB : Hid (decide (f + n < 18446744073709551616) = decide (f + n < 18446744073709551616)) := Lib.hid rfl)
      | (have H00 := Lib.hid (hE.2.2.2 (by omega)).symm; have HFB := Lib.hid (show decide (f + n < 18446744073709551616) = true by rw [decide_eq_true_eq]; omega))
      | (have H00 := Lib.hid (hE.2.2.1 (.inr g3)).symm; have HFB := Lib.hid (show decide (f + n < 18446744073709551616) = false by rw [decide_eq_false_iff_not]; omega))
    clear hE g1 g2
    try clear g3
    go_enter Tryz.func52, Tryz.ntmps52
    go_wp2_with (first
      | (go_at_call 84; go_loud (with_reducible refine (efits_calls f n _ rfl hf9 HL.out _ _ HFB.out).mono ?_); rintro r5 w5 ⟨rfl, rfl⟩)
      | (go_at_call 85; go_loud (with_reducible refine (leastN _ 3 _ _ (by first | exact h2.out | exact h0.out) h3.out e0 H00.out _).mono ?_); rintro r6 w6 ⟨rfl, rfl⟩))
    go_loopw [4, 6, 32] (fun ev _ iv wr => ∃ (j e : Nat), j ≤ n ∧ iv = .int .i64 j ∧ ev = .int .i64 e ∧ Hid (e = (ensOf (es.take j)).foldl (fun e x => leastF e (chkF x)) e0) ∧ Duo wr w.heap.size (.int .u64 f) (.slice A n c) ∧ Ents wr A es ∧ Below w.heap.size w wr) (fun _ _ iv _ => n - (intOf iv).toNat)
    case atStart => exact ⟨0, e0, Nat.zero_le _, rfl, by first | rfl | (congr 1; first | exact h2.out.trans (congrArg _ H00.out) | exact h0.out.trans (congrArg _ H00.out)), Lib.hid rfl, HT.out, h.new HB.out, HB.out⟩
    case round =>
      obtain ⟨j, e, hj, rfl, rfl, HEQ, HD, HES, HBB⟩ := hrel
      by_cases hlt : j < n
      · obtain ⟨a, o, x, rfl, ho, hmem, hok, k0, k1, k2⟩ := HES.at_ j (by rw [← HN.out]; exact hlt)
        obtain ⟨ch, hch⟩ : ∃ ch, ch = chkF o := ⟨_, rfl⟩
        obtain ⟨e9, he9⟩ : ∃ e9, e9 = leastF e ch := ⟨_, rfl⟩
        have HNX := Lib.hid (show e9 = (ensOf (es.take (j + 1))).foldl (fun e x => leastF e (chkF x)) e0 by rw [ensOf_take es j o x ho, List.foldl_append, ← HEQ.out, he9, hch]; rfl)
        have HCH := Lib.hid hch.symm
        have HE9 := Lib.hid he9.symm
        have HT5 := Lib.hid (Trio.fresh wr wr.heap.size rfl (.int .u8 o.k) (.slice x.KA o.K.length x.kc) (.slice x.VA o.V.length x.vc) 72)
        have HB5 := Lib.hid (belowA HBB (.cells #[.int .u8 o.k, .slice x.KA o.K.length x.kc, .slice x.VA o.V.length x.vc] 72))
        have hz5 := HT5.out.lt
        clear hch he9 ho HEQ
        go_wp2_with (first
          | (go_at_call 86; go_loud (with_reducible refine (checkN o x.KA x.VA o.K.length o.V.length x.kc x.vc _ rfl rfl ch (congrArg _ HCH.out)).mono ?_); rintro r7 w7 ⟨rfl, hb7⟩; have hb7' := Lib.hid hb7)
          | (go_at_call 85; go_loud (with_reducible refine (leastN e ch _ _ rfl rfl e9 HE9.out _).mono ?_); rintro r8 w8 ⟨rfl, rfl⟩))
        go_roundw
        case rel => exact ⟨j + 1, e9, by omega, by go_num, rfl, HNX.out, (HD.new (below_alloc1 (Below.refl _ _) (Nat.le_refl _) _)).new hb7'.out, (HES.new (below_alloc1 (Below.refl _ _) (Nat.le_refl _) _)).new hb7'.out, below_then HB5.out hb7'.out⟩
        case measure => simp [intOf]; omega
      · obtain rfl : j = n := by omega
        have hXe : e = X := by rw [HX.out, HEQ.out, List.take_of_length_le (Nat.le_of_eq HN.out.symm)]; unfold errB; rw [HE0.out]
        have HXE := Lib.hid hXe.symm
        clear hlt hXe HEQ
        have hz1 := HD.lt
        have d0 := HD.c0
        have d1 := HD.c1
        by_cases hz : e = 0
        · obtain ⟨nf, nn, n64⟩ := err0_zero f j (by rw [← HE0.out]; have hq := HX.out; rw [← HXE.out] at hz; rw [hq] at hz; unfold errB at hz; rw [HE0.out]; exact (fold_zero _ _ hz).1)
          have HCK : Hid (∀ x ∈ ensOf es, chkF x = 0) := Lib.hid (by have hq := HX.out; rw [← HXE.out] at hz; rw [hq] at hz; unfold errB at hz; exact (fold_zero _ _ hz).2)
          have H64 := Lib.hid n64
          subst hz
          have HW1 := Lib.hid (WrF.fresh wr wr.heap.size rfl 93)
          clear nf nn n64
          have hq := HQ.out
          unfold encBF at hq
          rw [HEN.out, ← HX.out, HXE.out, if_pos rfl] at hq
          injection hq with hq1 hq2
          subst hq2
          unfold encBL at hq1
          rw [HEN.out] at hq1
          have HQ1 := Lib.hid hq1
          have HUF := Lib.hid (WireMath.uvarL_length f)
          have HUN := Lib.hid (WireMath.uvarL_length j)
          have HU1 := Lib.hid (rfl : [] ++ uvarL f = [] ++ uvarL f)
          have HU2 := Lib.hid (rfl : ([] ++ uvarL f) ++ uvarL j = ([] ++ uvarL f) ++ uvarL j)
          have hbo := Lib.hid (show ∀ k, k = wr.heap.size → w.heap.size ≤ k from fun k hk => by have := HBB.size; omega)
          clear hq1
          generalize hp1 : [] ++ uvarL f = p1 at HU1 HU2
          generalize hp2 : p1 ++ uvarL j = p2 at HU2
          have hp1l : p1.length ≤ 10 := by rw [← hp1]; simp; exact HUF.out
          have hp2l : p2.length ≤ 20 := by rw [← hp2, List.length_append]; have := HUN.out; omega
          have HP1 := Lib.hid hp1
          have HP2 := Lib.hid hp2
          clear hp1 hp2
          go_wp2_with (first
            | (go_at_call 87; (with_reducible refine (uvarFF HW1.out p1 f f rfl HP1.out hf9 (by decide)).mono ?_); rintro r3 w3 ⟨F3, rfl, hw3, hs3⟩; have D3 := (HD.new (below_alloc1 (Below.refl _ _) (Nat.le_refl _) (.cells #[.slice none 0 0] 93))).stepE hs3 (fun e9 => by have e8 : w.heap.size = wr.heap.size := e9; omega); have hz3 := D3.lt; have m0 := D3.c0; have m1 := D3.c1; have B3 := Lib.hid ((belowA HBB (.cells #[.slice none 0 0] 93)).trans (hs3.below (B := w.heap.size) (belowA HBB (.cells #[.slice none 0 0] 93)).size hbo.out)); have z33 : wr.heap.size ≤ w3.heap.size := by { have := hs3.size; rw [asz] at this; omega }; have G3 := Lib.hid (hs3.lo (B := wr.heap.size) (fun k hk => Nat.le_of_eq (Eq.symm hk)) (by rw [asz]; omega)))
            | (go_at_call 87; (with_reducible refine (uvarFF hw3 p2 j j rfl HP2.out (by have := HL.out; omega) (by omega)).mono ?_); rintro r4 w4 ⟨F4, rfl, hw4, hs4⟩; have D4 := D3.stepE hs4 (fun e9 => by have := G3.out _ e9; omega); have hz4 := D4.lt; have n0 := D4.c0; have n1 := D4.c1; have B4 := Lib.hid (B3.out.trans (hs4.below (B := w.heap.size) B3.out.size (fun k hk => by have := G3.out _ hk; omega))); have G4 := Lib.hid (hs4.lo (B := wr.heap.size) G3.out z33)))
          have hl2 : (ensOf (es.take 0)).flatMap encL = [] := by simp [ensOf]
          have hw4' : WrF w4 F4 wr.heap.size (p2 ++ (ensOf (es.take 0)).flatMap encL) := by rw [hl2, List.append_nil]; exact hw4
          have HC4 : Hid (∀ i, ((ensOf (es.take i)).flatMap encL).length ≤ 21824) := Lib.hid (fun i => by
            have h5 := flat_le (ensOf (es.take i)) (fun x hx => HCK.out x (by unfold ensOf at hx ⊢; rw [List.mem_map] at hx ⊢; obtain ⟨y, hy, hz⟩ := hx; exact ⟨y, List.mem_of_mem_take hy, hz⟩))
            have h6 : (ensOf (es.take i)).length ≤ 64 := by have := HN.out; have := H64.out; simp [ensOf]; omega
            omega)
          have HCS : Hid (∀ o x, (o, x) ∈ es → o.K.length ≤ 64 ∧ o.V.length ≤ 256) := Lib.hid (fun o x hx => by have := chk_small o (HCK.out o (by unfold ensOf; rw [List.mem_map]; exact ⟨(o, x), hx, rfl⟩)); exact ⟨this.1, this.2.1⟩)
          clear hl2 hw4
          obtain ⟨wo, hwo⟩ : ∃ wo : World, wo = wr := ⟨_, rfl⟩
          subst hwo
          go_loopw [9, 55] (fun _ iv wr => ∃ (i : Nat) (G : Nat → Prop), i ≤ j ∧ iv = .int .i64 i ∧ WrF wr G wo.heap.size (p2 ++ (ensOf (es.take i)).flatMap encL) ∧ (∀ k, G k → w.heap.size ≤ k) ∧ Below w.heap.size w wr) (fun _ iv _ => j - (intOf iv).toNat)
          case atStart => exact ⟨0, F4, Nat.zero_le _, rfl, hw4', fun k hk => by have := G4.out _ hk; omega, B4.out⟩
          case round =>
            obtain ⟨i, G, hi, rfl, HW, HG, HBI⟩ := hrel
            by_cases hlt : i < j
            · obtain ⟨a, o, x, rfl, ho, hmem, hok, k0, k1, k2⟩ := (h.new HBI).at_ i (by rw [← HN.out]; exact hlt)
              have HQ9 := Lib.hid (show (p2 ++ (ensOf (es.take i)).flatMap encL) ++ encL o = p2 ++ (ensOf (es.take (i + 1))).flatMap encL by rw [ensOf_take es i o x ho, List.flatMap_append]; simp)
              have hc4 := HC4.out i
              obtain ⟨hc5, hc6⟩ := HCS.out o x hmem
              have HL9 : Hid ((p2 ++ (ensOf (es.take i)).flatMap encL).length + o.K.length + o.V.length + 40 ≤ 140737488355328) := Lib.hid (by rw [List.length_append]; omega)
              have HFK : Hid (Free G x.KA o.K) := Lib.hid (Free.of_old (h.ok _ hmem).K.old HG)
              have HFV : Hid (Free G x.VA o.V) := Lib.hid (Free.of_old (h.ok _ hmem).V.old HG)
              have HGL := Lib.hid HW.lt
              clear hc4 hc5 hc6 ho
              go_wp2_with (go_at_call 88; go_loud (with_reducible refine (elay_calls (HW.new (below_alloc1 (Below.refl _ _) (Nat.le_refl _) _)) o x o.K.length o.V.length rfl rfl (hok.new (below_alloc1 (Below.refl _ _) (Nat.le_refl _) _)) HFK.out HFV.out _ HQ9.out HL9.out).mono ?_); rintro e5 w5 ⟨G5, rfl, hw5, hs5⟩)
              go_roundw
              case rel => exact ⟨i + 1, G5, by omega, by go_num, hw5, hs5.lo HG (Nat.le_trans HBI.size (by rw [asz]; omega)), (belowA HBI _).trans (hs5.below (B := w.heap.size) (Nat.le_trans HBI.size (by rw [asz]; omega)) HG)⟩
              case measure => simp [intOf]; omega
            · obtain rfl : i = j := by omega
              rw [List.take_of_length_le (Nat.le_of_eq HN.out.symm)] at HW
              have hqq : p2 ++ (ensOf es).flatMap encL = q := by rw [← HQ1.out, ← HP2.out, ← HP1.out]; simp
              have hql : q.length ≤ 140737488355328 := by have := HC4.out i; rw [List.take_of_length_le (Nat.le_of_eq HN.out.symm)] at this; rw [← hqq, List.length_append]; omega
              rw [hqq] at HW
              clear hlt hqq hw4' hw3
              go_wp2_with (go_at_call 49; go_loud (with_reducible refine (bytesF HW q.length rfl hql).mono ?_); rintro e3 w3 ⟨A3, c3, rfl, hn3⟩)
              go_ret2
              exact ⟨A3, c3, rfl, hn3.own.mono HBI.size, below_then HBI hn3.below⟩
        · have hb9 : ((e : Int) != 0) = true := by rw [bne_iff_ne]; omega
          have HZ := Lib.hid hz
          clear hz
          go_wp2
          go_ret2
          have hq := HQ.out
          unfold encBF at hq
          rw [HEN.out, ← HX.out, HXE.out, if_neg HZ.out] at hq
          injection hq with hq1 hq2
          subst hq1; subst hq2
          exact ⟨none, 0, rfl, OB.nil _ _ _, HBB⟩
end Go.Proofs.YtpmnnnbkbcpgjaaGreatDoor
