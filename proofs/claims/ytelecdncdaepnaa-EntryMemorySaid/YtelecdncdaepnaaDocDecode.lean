/- The walk of notaryref05.DocDecode. -/
import Derived.Test.YtelecdncdaepnaaDocTake
import Derived.Test.YtelecdncdaepnaaDecodeWalk
namespace Go.Proofs.Ytelecdncdaepnaa
open Go.RowKit
open WireMath (numS beN rawS blobS uvarS grpL uvarL wideL)

theorem decF_take (P : List UInt8) : decF P = if doneE P (takeR P 0 0).at_ (takeR P 0 0).e ≠ 0 then (doneE P (takeR P 0 0).at_ (takeR P 0 0).e, ⟨0, [], []⟩) else (0, (takeR P 0 0).v) := by
  obtain ⟨h1, h2⟩ := takeR_entS P 0
  unfold decF
  by_cases h : (entS P 0).e ≠ 0
  · rw [if_pos h]
    have : doneE P (takeR P 0 0).at_ (takeR P 0 0).e = (entS P 0).e := by unfold doneE; rw [if_pos (.inl (by omega)), h1]
    rw [this, if_pos h]
  · have h' : (entS P 0).e = 0 := by omega
    obtain ⟨h3, h4⟩ := h2 h'
    rw [if_neg h, h1, h', h3, h4]
theorem results_dd {fn : Func} {p q : Tmp} (h : fn.results = #[.cell p 26, .tmp q]) (tmps : Array Value) (w : World) (b : Nat) (x y z : Value) (hp : tmps.getD p undef = .pointer (some ⟨b, 0, none⟩)) (ht : Trio w b x y z) :
    (results fn tmps).run Try.prog w = .ok (.tuple #[.agg #[x, y, z], tmps.getD q undef]) w := by
  have hp' : tmps[p]?.getD undef = .pointer (some ⟨b, 0, none⟩) := by simpa using hp
  have hl := run_loadVar_mid (P := Try.prog) w b 0 26 [x, y, z] _ (fun j v hj => by
    match j, hj with
    | 0, hj => simp at hj; subst hj; simpa using ht.c0
    | 1, hj => simp at hj; subst hj; simpa using ht.c1
    | 2, hj => simp at hj; subst hj; simpa using ht.c2
    | j + 3, hj => simp at hj) Try.underlying26 rfl (by kernel_rfl)
  simp [results, h, hp', asAddr, hl]
theorem rdoneN (A : Option Addr) (P : List UInt8) (n c at_ e : Nat) (w : World) (hn : n = P.length) (hat : at_ ≤ P.length) (f : Nat) (hf : doneE P at_ e = f) :
    Calls Try.prog 72 #[.agg #[.slice A n c, .int .i64 at_, .int .i64 e]] w fun e' w' => e' = .returned (.int .i64 f) ∧ Below w.heap.size w w' := by
  subst hf; exact refdone_calls A P n c at_ e e at_ rfl rfl w hn hat
set_option maxHeartbeats 400000 in
set_option maxRecDepth 100000 in
theorem docDecode_calls (A : Option Addr) (P : List UInt8) (n c : Nat) (w : World) (hp : RB w A c P) (hn : n = P.length) (hl : P.length ≤ 140737488355328) :
    Calls Try.prog 45 #[.slice A n c] w fun r w' => ∃ a : EnA, r = .returned (.tuple #[.agg #[.int .u8 (decF P).2.k, .slice a.KA (decF P).2.K.length a.kc, .slice a.VA (decF P).2.V.length a.vc], .int .i64 (decF P).1]) ∧ NewE w w' (decF P).2 a := by
  rw [decF_take]
  obtain ⟨t, ht⟩ := (⟨_, rfl⟩ : ∃ t, takeR P 0 0 = t)
  rw [ht]
  have hle : t.at_ ≤ P.length := by rw [← ht]; exact takeR_le P 0 0 (Nat.zero_le _)
  obtain ⟨f, hf⟩ := (⟨_, rfl⟩ : ∃ f, doneE P t.at_ t.e = f)
  rw [hf]
  have HB := Lib.hid (below_alloc1 (Below.refl w.heap.size w) (Nat.le_refl _) (.cells #[.int .u8 0, .slice none 0 0, .slice none 0 0] 26))
  have HT := Lib.hid (Trio.fresh w w.heap.size rfl (.int .u8 0) (.slice none 0 0) (.slice none 0 0) 26)
  have HTT := Lib.hid ht
  have HF := Lib.hid hf
  have c0 := Lib.hid (show (0 : Int) = ((0 : Nat) : Int) from rfl)
  clear ht hf
  subst hn
  by_cases h : f ≠ 0
  · rw [if_pos h]
    have hb : ((f : Int) != 0) = true := by rw [bne_iff_ne]; omega
    clear h
    go_enter Try.func45, Try.ntmps45
    go_wp2_with (first
      | (go_at_call 71; go_loud (with_reducible refine (dtake_calls A P _ c 0 0 0 0 c0.out c0.out _ (hp.new HB.out) rfl hl (Nat.zero_le _) t HTT.out).mono ?_); rintro r1 w1 ⟨a1, rfl, hn1⟩; have T1 := ((HT.out.new hn1.below).new (below_alloc1 (Below.refl _ _) (Nat.le_refl _) (.cells #[.int .u8 t.v.k, .slice a1.KA t.v.K.length a1.kc, .slice a1.VA t.v.V.length a1.vc] 26))).new (below_alloc1 (Below.refl _ _) (Nat.le_refl _) (.cells #[.slice A P.length c, .int .i64 t.at_, .int .i64 t.e] 105)); have B1 := Lib.hid (belowA (belowA (below_then HB.out hn1.below) (.cells #[.int .u8 t.v.k, .slice a1.KA t.v.K.length a1.kc, .slice a1.VA t.v.V.length a1.vc] 26)) (.cells #[.slice A P.length c, .int .i64 t.at_, .int .i64 t.e] 105)))
      | (go_at_call 72; go_loud (with_reducible refine (rdoneN A P _ c t.at_ t.e _ rfl hle f HF.out).mono ?_); rintro r2 w2 ⟨rfl, hb2⟩; have T2 := T1.new hb2; have B2 := Lib.hid (below_then B1.out hb2); have x0 := T2.c0; have x1 := T2.c1; have x2 := T2.c2; have f0 := T2.fz 0; have f1 := T2.fz 1; have f2 := T2.fz 2))
    exact bodyPost_ret (results_dd rfl _ _ w.heap.size _ _ _ rfl (T2.put (.int .u8 0) (.slice none 0 0) (.slice none 0 0))) rfl ⟨⟨none, 0, none, 0⟩, rfl, OB.nil _ _ _, OB.nil _ _ _, B2.out.trans (put3_below (Nat.le_refl _) _ _ _)⟩
  · rw [if_neg h]
    obtain rfl : f = 0 := by omega
    clear h
    go_enter Try.func45, Try.ntmps45
    go_wp2_with (first
      | (go_at_call 71; go_loud (with_reducible refine (dtake_calls A P _ c 0 0 0 0 c0.out c0.out _ (hp.new HB.out) rfl hl (Nat.zero_le _) t HTT.out).mono ?_); rintro r1 w1 ⟨a1, rfl, hn1⟩; have T1 := ((HT.out.new hn1.below).new (below_alloc1 (Below.refl _ _) (Nat.le_refl _) (.cells #[.int .u8 t.v.k, .slice a1.KA t.v.K.length a1.kc, .slice a1.VA t.v.V.length a1.vc] 26))).new (below_alloc1 (Below.refl _ _) (Nat.le_refl _) (.cells #[.slice A P.length c, .int .i64 t.at_, .int .i64 t.e] 105)); have E1 := (Trio.fresh w1 w1.heap.size rfl (.int .u8 t.v.k) (.slice a1.KA t.v.K.length a1.kc) (.slice a1.VA t.v.V.length a1.vc) 26).new (below_alloc1 (Below.refl _ _) (Nat.le_refl _) (.cells #[.slice A P.length c, .int .i64 t.at_, .int .i64 t.e] 105)); have KK := Lib.hid (((hn1.K.alloc (.cells #[.int .u8 t.v.k, .slice a1.KA t.v.K.length a1.kc, .slice a1.VA t.v.V.length a1.vc] 26)).alloc (.cells #[.slice A P.length c, .int .i64 t.at_, .int .i64 t.e] 105))); have VV := Lib.hid (((hn1.V.alloc (.cells #[.int .u8 t.v.k, .slice a1.KA t.v.K.length a1.kc, .slice a1.VA t.v.V.length a1.vc] 26)).alloc (.cells #[.slice A P.length c, .int .i64 t.at_, .int .i64 t.e] 105))); have B1 := Lib.hid (belowA (belowA (below_then HB.out hn1.below) (.cells #[.int .u8 t.v.k, .slice a1.KA t.v.K.length a1.kc, .slice a1.VA t.v.V.length a1.vc] 26)) (.cells #[.slice A P.length c, .int .i64 t.at_, .int .i64 t.e] 105)))
      | (go_at_call 72; go_loud (with_reducible refine (rdoneN A P _ c t.at_ t.e _ rfl hle 0 HF.out).mono ?_); rintro r2 w2 ⟨rfl, hb2⟩; have T2 := T1.new hb2; have B2 := Lib.hid (below_then B1.out hb2); have x0 := T2.c0; have x1 := T2.c1; have x2 := T2.c2; have f0 := T2.fz 0; have f1 := T2.fz 1; have f2 := T2.fz 2; have E2 := E1.new hb2; have y0 := E2.c0; have y1 := E2.c1; have y2 := E2.c2; have K2 := Lib.hid (KK.out.new hb2); have V2 := Lib.hid (VV.out.new hb2); have hz2 := E2.lt))
    have hlt : w.heap.size < (w.alloc (.cells #[.int .u8 0, .slice none 0 0, .slice none 0 0] 26)).heap.size := HT.out.lt
    exact bodyPost_ret (results_dd rfl _ _ w.heap.size _ _ _ rfl (T2.put (.int .u8 t.v.k) (.slice a1.KA t.v.K.length a1.kc) (.slice a1.VA t.v.V.length a1.vc))) rfl ⟨a1, rfl, (K2.out.low3 hlt).mono HB.out.size, (V2.out.low3 hlt).mono HB.out.size, B2.out.trans (put3_below (Nat.le_refl _) _ _ _)⟩
end Go.Proofs.Ytelecdncdaepnaa
