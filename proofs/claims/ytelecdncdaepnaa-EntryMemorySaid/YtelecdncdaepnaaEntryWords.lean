/- Entries: what they are laid as, what is asked of them; the walks of Check, lay, Encode and of the document's. -/
import Derived.Test.YtelecdncdaepnaaWireF
import Derived.Deep.RegionHeld3
namespace Go.Proofs.Ytelecdncdaepnaa
open Go.RowKit
open WireMath (numS beN rawS blobS uvarS grpL uvarL wideL)

/-- an entry: its kind, its key, its value -/
structure En where
  k : Nat
  K : List UInt8
  V : List UInt8
def chkF (e : En) : Nat := if 64 < e.K.length ∨ 256 < e.V.length then 2 else if (e.k ≠ 1 ∧ e.k ≠ 2) ∨ (e.k = 2 ∧ 0 < e.V.length) then 3 else 0
def encL (e : En) : List UInt8 := [UInt8.ofNat e.k] ++ ((uvarL e.K.length ++ e.K) ++ (if e.k = 1 then uvarL e.V.length ++ e.V else []))
theorem encL_length (e : En) : (encL e).length ≤ 21 + e.K.length + e.V.length := by
  have h1 := WireMath.uvarL_length e.K.length
  have h2 := WireMath.uvarL_length e.V.length
  unfold encL
  split <;> simp only [List.length_append, List.length_cons, List.length_nil] <;> omega
/-- where an entry's lists stand -/
structure EnA where
  KA : Option Addr
  kc : Nat
  VA : Option Addr
  vc : Nat
def enVal (e : En) (a : EnA) : Value := .agg #[.int .u8 e.k, .slice a.KA e.K.length a.kc, .slice a.VA e.V.length a.vc]
structure EnOk (w : World) (e : En) (a : EnA) : Prop where
  k : e.k ≤ 255
  K : RB w a.KA a.kc e.K
  V : RB w a.VA a.vc e.V
theorem EnOk.new {w w' : World} {e : En} {a : EnA} (h : EnOk w e a) (hb : Below w.heap.size w w') : EnOk w' e a := ⟨h.k, h.K.new hb, h.V.new hb⟩
theorem EnOk.step {w w' : World} {F F' : Nat → Prop} {e : En} {a : EnA} (h : EnOk w e a) (hs : Step w w' F F') (h1 : Free F a.KA e.K) (h2 : Free F a.VA e.V) : EnOk w' e a := ⟨h.k, h.K.step hs h1, h.V.step hs h2⟩
theorem Trio.stepE {w w' : World} {F F' : Nat → Prop} {b : Nat} {x y z : Value} (h : Trio w b x y z) (hs : Step w w' F F') (hf : ¬ F b) : Trio w' b x y z := h.keep (hs.block b h.lt hf)
theorem results_en {fn : Func} {p : Tmp} (h : fn.results = #[.cell p 26]) (tmps : Array Value) (w : World) (b : Nat) (x y z : Value) (hp : tmps.getD p undef = .pointer (some ⟨b, 0, none⟩)) (h0 : w.cell? ⟨b, 0, none⟩ = some x) (h1 : w.cell? ⟨b, 1, none⟩ = some y) (h2 : w.cell? ⟨b, 2, none⟩ = some z) :
    (results fn tmps).run Try.prog w = .ok (.agg #[x, y, z]) w := by
  have hp' : tmps[p]?.getD undef = .pointer (some ⟨b, 0, none⟩) := by simpa using hp
  have hl := run_loadVar_mid (P := Try.prog) w b 0 26 [x, y, z] _ (fun j v hj => by
    match j, hj with
    | 0, hj => simp at hj; subst hj; simpa using h0
    | 1, hj => simp at hj; subst hj; simpa using h1
    | 2, hj => simp at hj; subst hj; simpa using h2
    | j + 3, hj => simp at hj) Try.underlying26 rfl (by kernel_rfl)
  simp [results, h, hp', asAddr, hl]

set_option maxRecDepth 100000 in
theorem check_calls (e : En) (KA VA : Option Addr) (n m kc vc : Nat) (w : World) (hn : n = e.K.length) (hm : m = e.V.length) :
    Calls Try.prog 37 #[.agg #[.int .u8 e.k, .slice KA n kc, .slice VA m vc]] w fun r w' => r = .returned (.int .i64 (chkF e)) ∧ Below w.heap.size w w' := by
  have HC : Hid (chkF e = if 64 < n ∨ 256 < m then 2 else if (e.k ≠ 1 ∧ e.k ≠ 2) ∨ (e.k = 2 ∧ 0 < m) then 3 else 0) := Lib.hid (by rw [hn, hm]; rfl)
  clear hn hm
  generalize e.k = k at *
  go_enter Try.func37, Try.ntmps37
  go_wp2
  all_goals
    go_ret
    refine ⟨ret_int ?_, belowA (Below.refl _ _) _⟩
    rw [HC.out]
    repeat' split
    all_goals first | rfl | omega
set_option maxRecDepth 100000 in
theorem docCheck_calls (e : En) (KA VA : Option Addr) (n m kc vc : Nat) (w : World) (hn : n = e.K.length) (hm : m = e.V.length) :
    Calls Try.prog 87 #[.agg #[.int .u8 e.k, .slice KA n kc, .slice VA m vc]] w fun r w' => r = .returned (.int .i64 (chkF e)) ∧ Below w.heap.size w w' := by
  have HC : Hid (chkF e = if 64 < n ∨ 256 < m then 2 else if (e.k ≠ 1 ∧ e.k ≠ 2) ∨ (e.k = 2 ∧ 0 < m) then 3 else 0) := Lib.hid (by rw [hn, hm]; rfl)
  clear hn hm
  generalize e.k = k at *
  go_enter Try.func87, Try.ntmps87
  go_wp2
  all_goals
    go_ret
    refine ⟨ret_int ?_, belowA (Below.refl _ _) _⟩
    rw [HC.out]
    repeat' split
    all_goals first | rfl | omega
set_option maxRecDepth 100000 in
theorem elay_calls {w : World} {F : Nat → Prop} {b : Nat} {p : List UInt8} (h : WrF w F b p) (e : En) (a : EnA) (n m : Nat) (hn : n = e.K.length) (hm : m = e.V.length) (hok : EnOk w e a) (hfK : Free F a.KA e.K) (hfV : Free F a.VA e.V) (q : List UInt8) (hq : p ++ encL e = q) (hl : p.length + e.K.length + e.V.length + 40 ≤ 140737488355328) :
    Calls Try.prog 49 #[.pointer (some ⟨b, 0, none⟩), .agg #[.int .u8 e.k, .slice a.KA n a.kc, .slice a.VA m a.vc]] w fun r w' => ∃ F', r = .returned (.tuple #[]) ∧ WrF w' F' b q ∧ Step w w' F F' := by
  subst hn; subst hm
  have HB := Lib.hid (below_alloc1 (Below.refl w.heap.size w) (Nat.le_refl _) (.cells #[.int .u8 e.k, .slice a.KA e.K.length a.kc, .slice a.VA e.V.length a.vc] 26))
  have HW := Lib.hid (h.new HB.out)
  have HO := Lib.hid (hok.new HB.out)
  have HT := Lib.hid (Trio.fresh w w.heap.size rfl (.int .u8 e.k) (.slice a.KA e.K.length a.kc) (.slice a.VA e.V.length a.vc) 26)
  have HNF : Hid (¬ F w.heap.size) := Lib.hid (fun e => by have := h.lt _ e; omega)
  have hk := hok.k
  have hul := WireMath.uvarL_length e.K.length
  have HFK := Lib.hid hfK
  have HFV := Lib.hid hfV
  clear hfK hfV
  by_cases h1 : e.k = 1
  · have HQ := Lib.hid (show ((p ++ [UInt8.ofNat e.k]) ++ (uvarL e.K.length ++ e.K)) ++ (uvarL e.V.length ++ e.V) = q by rw [← hq]; unfold encL; rw [if_pos h1]; simp)
    have hb : ((e.k : Int) == 1) = true := by rw [beq_iff_eq]; omega
    clear h1 hq
    go_enter Try.func49, Try.ntmps49
    go_wp2_with (first
      | (go_at_call 89; go_loud (with_reducible refine (u8F HW.out (p ++ [UInt8.ofNat e.k]) e.k _ rfl rfl (by omega) (by omega)).mono ?_); rintro e1 w1 ⟨F1, rfl, hw1, hs1⟩; have T1 := HT.out.stepE hs1 HNF.out; have d0 := T1.c0; have d1 := T1.c1; have d2 := T1.c2; have O1 := Lib.hid (HO.out.step hs1 HFK.out HFV.out); have fK1 := Lib.hid (HFK.out.step HO.out.K hs1); have fV1 := Lib.hid (HFV.out.step HO.out.V hs1))
      | (go_at_call 90; (with_reducible refine (blobF hw1 a.KA e.K ((p ++ [UInt8.ofNat e.k]) ++ (uvarL e.K.length ++ e.K)) e.K.length a.kc rfl O1.out.K fK1.out rfl (by simp; omega)).mono ?_); rintro e2 w2 ⟨F2, rfl, hw2, hs2⟩; have T2 := HT.out.stepE (hs1.trans hs2) HNF.out; have d0 := T2.c0; have d1 := T2.c1; have d2 := T2.c2; have O2 := Lib.hid (O1.out.step hs2 fK1.out fV1.out); have fV2 := Lib.hid (fV1.out.step O1.out.V hs2); clear hw1)
      | (go_at_call 90; go_loud (with_reducible refine (blobF hw2 a.VA e.V q e.V.length a.vc HQ.out O2.out.V fV2.out rfl (by simp; omega)).mono ?_); rintro e3 w3 ⟨F3, rfl, hw3, hs3⟩))
    go_end0
    exact ⟨F3, rfl, hw3, Step.ahead HB.out ((hs1.trans hs2).trans hs3)⟩
  · have HQ := Lib.hid (show (p ++ [UInt8.ofNat e.k]) ++ (uvarL e.K.length ++ e.K) = q by rw [← hq]; unfold encL; rw [if_neg h1]; simp)
    have hb : ((e.k : Int) == 1) = false := by rw [beq_eq_false_iff_ne]; omega
    clear h1 hq
    go_enter Try.func49, Try.ntmps49
    go_wp2_with (first
      | (go_at_call 89; go_loud (with_reducible refine (u8F HW.out (p ++ [UInt8.ofNat e.k]) e.k _ rfl rfl (by omega) (by omega)).mono ?_); rintro e1 w1 ⟨F1, rfl, hw1, hs1⟩; have T1 := HT.out.stepE hs1 HNF.out; have d0 := T1.c0; have d1 := T1.c1; have d2 := T1.c2; have O1 := Lib.hid (HO.out.step hs1 HFK.out HFV.out); have fK1 := Lib.hid (HFK.out.step HO.out.K hs1))
      | (go_at_call 90; go_loud (with_reducible refine (blobF hw1 a.KA e.K q e.K.length a.kc HQ.out O1.out.K fK1.out rfl (by simp; omega)).mono ?_); rintro e2 w2 ⟨F2, rfl, hw2, hs2⟩; have T2 := HT.out.stepE (hs1.trans hs2) HNF.out; have d0 := T2.c0; have d1 := T2.c1; have d2 := T2.c2))
    go_end0
    exact ⟨F2, rfl, hw2, Step.ahead HB.out (hs1.trans hs2)⟩
end Go.Proofs.Ytelecdncdaepnaa
