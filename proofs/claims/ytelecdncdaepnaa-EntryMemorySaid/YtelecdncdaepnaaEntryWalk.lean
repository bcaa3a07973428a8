/- The walks of layer 5: Encode, and the document's bytes of an entry. -/
import Derived.Test.YtelecdncdaepnaaEntryWords
namespace Go.Proofs.Ytelecdncdaepnaa
open Go.RowKit
open WireMath (numS beN rawS blobS uvarS grpL uvarL wideL)

theorem checkN (e : En) (KA VA : Option Addr) (n m kc vc : Nat) (w : World) (hn : n = e.K.length) (hm : m = e.V.length) (C : Int) (hC : (chkF e : Int) = C) :
    Calls Try.prog 37 #[.agg #[.int .u8 e.k, .slice KA n kc, .slice VA m vc]] w fun r w' => r = .returned (.int .i64 C) ∧ Below w.heap.size w w' := by
  subst hC; exact check_calls e KA VA n m kc vc w hn hm
theorem docCheckN (e : En) (KA VA : Option Addr) (n m kc vc : Nat) (w : World) (hn : n = e.K.length) (hm : m = e.V.length) (C : Int) (hC : (chkF e : Int) = C) :
    Calls Try.prog 87 #[.agg #[.int .u8 e.k, .slice KA n kc, .slice VA m vc]] w fun r w' => r = .returned (.int .i64 C) ∧ Below w.heap.size w w' := by
  subst hC; exact docCheck_calls e KA VA n m kc vc w hn hm
def encE (e : En) : List UInt8 × Nat := if chkF e = 0 then (encL e, 0) else ([], chkF e)
theorem chk_small (e : En) (h : chkF e = 0) : e.K.length ≤ 64 ∧ e.V.length ≤ 256 ∧ (e.k = 1 ∨ e.k = 2) ∧ (e.k = 2 → e.V = []) := by
  unfold chkF at h
  split at h
  · omega
  · split at h
    · omega
    · rename_i h1 h2
      refine ⟨by omega, by omega, by omega, fun h3 => List.eq_nil_of_length_eq_zero (by omega)⟩
set_option maxRecDepth 100000 in
theorem encodeE_calls (e : En) (a : EnA) (n m : Nat) (hn : n = e.K.length) (hm : m = e.V.length) (w : World) (hok : EnOk w e a) :
    Calls Try.prog 22 #[.agg #[.int .u8 e.k, .slice a.KA n a.kc, .slice a.VA m a.vc]] w fun r w' => ∃ A' c', r = .returned (.tuple #[.slice A' (encE e).1.length c', .int .i64 (encE e).2]) ∧ NewB w w' (.slice A' (encE e).1.length c') (encE e).1 := by
  subst hn; subst hm
  have HB := Lib.hid (below_alloc1 (Below.refl w.heap.size w) (Nat.le_refl _) (.cells #[.int .u8 e.k, .slice a.KA e.K.length a.kc, .slice a.VA e.V.length a.vc] 26))
  have HT := Lib.hid (Trio.fresh w w.heap.size rfl (.int .u8 e.k) (.slice a.KA e.K.length a.kc) (.slice a.VA e.V.length a.vc) 26)
  by_cases h : chkF e = 0
  · obtain ⟨h1, h2, _⟩ := chk_small e h
    have hE : encE e = (encL e, 0) := by unfold encE; rw [if_pos h]
    rw [hE]
    have HC := Lib.hid (show ((chkF e : Nat) : Int) = 0 by rw [h]; rfl)
    have HLL : Hid ((encL e).length ≤ 140737488355328) := Lib.hid (by have := encL_length e; omega)
    clear hE h
    generalize hL : encL e = L at *
    have hQ := Lib.hid (show ([] : List UInt8) ++ encL e = L from hL)
    clear hL
    go_enter Try.func22, Try.ntmps22
    go_wp2_with (first
      | (go_at_call 37; go_loud (with_reducible refine (checkN e a.KA a.VA e.K.length e.V.length a.kc a.vc _ rfl rfl 0 HC.out).mono ?_); rintro e1 w1 ⟨rfl, hb1⟩; have T1 := HT.out.new hb1; have hz1 := T1.lt; have d0 := T1.c0; have d1 := T1.c1; have d2 := T1.c2; have B1 := Lib.hid (below_then HB.out hb1); have HW1 := Lib.hid (WrF.fresh w1 w1.heap.size rfl 84))
      | (go_at_call 49; go_loud (with_reducible refine (elay_calls HW1.out e a e.K.length e.V.length rfl rfl ((hok.new B1.out).new (below_alloc1 (Below.refl _ _) (Nat.le_refl _) _)) (Free.of_old (B := w.heap.size) hok.K.old (fun k hk => by have e9 : k = w1.heap.size := hk; have := B1.out.size; omega)) (Free.of_old (B := w.heap.size) hok.V.old (fun k hk => by have e9 : k = w1.heap.size := hk; have := B1.out.size; omega)) L hQ.out (by simp; omega)).mono ?_); rintro e2 w2 ⟨F2, rfl, hw2, hs2⟩; have B2 := Lib.hid ((belowA B1.out (.cells #[.slice none 0 0] 84)).trans (hs2.below (B := w.heap.size) (belowA B1.out (.cells #[.slice none 0 0] 84)).size (fun k hk => by have e9 : k = w1.heap.size := hk; have := B1.out.size; omega))))
      | (go_at_call 50; go_loud (with_reducible refine (bytesF hw2 L.length rfl HLL.out).mono ?_); rintro e3 w3 ⟨A3, c3, rfl, hn3⟩))
    go_ret2
    exact ⟨A3, c3, rfl, hn3.own.mono B2.out.size, below_then B2.out hn3.below⟩
  · have hE : encE e = ([], chkF e) := by unfold encE; rw [if_neg h]
    rw [hE]
    have hb : ((chkF e : Nat) : Int) != 0 := by rw [bne_iff_ne]; omega
    generalize hc : chkF e = c at *
    have HC := Lib.hid (show ((chkF e : Nat) : Int) = (c : Int) by rw [hc])
    clear hE h hc
    go_enter Try.func22, Try.ntmps22
    go_wp2_with (first
      | (go_at_call 37; go_loud (with_reducible refine (checkN e a.KA a.VA e.K.length e.V.length a.kc a.vc _ rfl rfl c HC.out).mono ?_); rintro e1 w1 ⟨rfl, hb1⟩; have B1 := Lib.hid (below_then HB.out hb1)))
    go_ret2
    exact ⟨none, 0, rfl, OB.nil _ _ _, B1.out⟩
theorem refblobN (A : Option Addr) (q r : List UInt8) (n c N : Nat) (w : World) (hp : RB w A c q) (hn : n = q.length) (hl : q.length ≤ 140737488355328) (hr : uvarL q.length ++ q = r) (hN : N = r.length) :
    Calls Try.prog 92 #[.slice A n c] w fun e w' => ∃ A' c', e = .returned (.slice A' N c') ∧ NewB w w' (.slice A' N c') r := by
  subst hr; subst hN
  have := refblob_calls A q n c w hp hn hl
  rwa [List.length_append]
theorem joinE (A B : Option Addr) (p q r : List UInt8) (n m k c d : Nat) (w : World) (hp : RB w A c p) (hq : RB w B d q) (hn : n = p.length) (hm : m = q.length) (hk : k = r.length) (hr : p ++ q = r) (hl : p.length + q.length ≤ 281474976710656) :
    Calls Try.prog 53 #[.slice A n c, .slice B m d] w fun e w' => ∃ A' c', e = .returned (.slice A' k c') ∧ NewB w w' (.slice A' k c') r := by
  subst hn; subst hm; subst hr; subst hk
  have := join_bytes_calls A B p q c d w hp hq hl
  exact this
theorem RB.oneAt (w : World) (e : TypeId) (b : UInt8) (v : Int) (hv : v = uB b) (k : Nat) (hk : w.heap.size = k) : RB (w.alloc (.cells #[.int .u8 v] e)) (some ⟨k, 0, none⟩) 1 [b] := by
  subst hk; subst hv; exact RB.one w e b
theorem RB.drewE {w : World} {A : Option Addr} {c : Nat} {p : List UInt8} (h : RB w A c p) : RB w.drew A c p := h.new (below_drew _ _)
set_option maxHeartbeats 400000 in
set_option maxRecDepth 100000 in
theorem bytesE_calls (e : En) (a : EnA) (n m : Nat) (hn : n = e.K.length) (hm : m = e.V.length) (w : World) (hok : EnOk w e a) (hs : e.K.length + e.V.length ≤ 1048576) (N : Nat) (hN : N = (encL e).length) :
    Calls Try.prog 55 #[.agg #[.int .u8 e.k, .slice a.KA n a.kc, .slice a.VA m a.vc]] w fun r w' => ∃ A' c', r = .returned (.slice A' N c') ∧ NewB w w' (.slice A' N c') (encL e) := by
  subst hn; subst hm; subst hN
  have HB := Lib.hid (below_alloc1 (Below.refl w.heap.size w) (Nat.le_refl _) (.cells #[.int .u8 e.k, .slice a.KA e.K.length a.kc, .slice a.VA e.V.length a.vc] 26))
  have HT := Lib.hid (Trio.fresh w w.heap.size rfl (.int .u8 e.k) (.slice a.KA e.K.length a.kc) (.slice a.VA e.V.length a.vc) 26)
  have hku := Lib.hid (show (e.k : Int) = uB (UInt8.ofNat e.k) by rw [uB_ofNat]; have := hok.k; omega)
  have hul := WireMath.uvarL_length e.K.length
  have huv := WireMath.uvarL_length e.V.length
  have HK := Lib.hid (hok.K.new HB.out)
  have HV := Lib.hid (hok.V.new HB.out)
  obtain ⟨bk, hbk⟩ : ∃ b, b = uvarL e.K.length ++ e.K := ⟨_, rfl⟩
  obtain ⟨bv, hbv⟩ : ∃ b, b = uvarL e.V.length ++ e.V := ⟨_, rfl⟩
  have hbkl : bk.length ≤ 1048586 := by rw [hbk, List.length_append]; omega
  have hbvl : bv.length ≤ 1048586 := by rw [hbv, List.length_append]; omega
  have HBK := Lib.hid hbk.symm
  have HBV := Lib.hid hbv.symm
  have hkl : e.K.length ≤ 140737488355328 := by omega
  have hvl : e.V.length ≤ 140737488355328 := by omega
  have x0 := HT.out.c0
  have x1 := HT.out.c1
  have x2 := HT.out.c2
  obtain ⟨hd, hhd⟩ : ∃ b, b = [UInt8.ofNat e.k] ++ bk := ⟨_, rfl⟩
  have hhl : hd.length ≤ 1048587 := by rw [hhd, List.length_append]; simp; omega
  have HHD := Lib.hid hhd.symm
  clear hbk hbv hul huv hhd
  go_enter Try.func55, Try.ntmps55
  go_wp2
  go_region_held3 (fun w' => w'.cell? ⟨w.heap.size, 0, none⟩ = some (.int .u8 e.k) ∧ w'.cell? ⟨w.heap.size, 1, none⟩ = some (.slice a.KA e.K.length a.kc)) (go_keep) (first
    | (go_at_call 92; (with_reducible refine (refblobN a.KA e.K bk _ a.kc bk.length _ (HK.out.drewE) rfl hkl HBK.out rfl).mono ?_); rintro e1 w1 ⟨A1, c1, rfl, hn1⟩; have T1 := HT.out.drew.new hn1.below; have y0 := T1.c0; have y1 := T1.c1; have hz1 := T1.lt; have B1 := Lib.hid (below_then HB.out.drew hn1.below))
    | (go_at_call 92; (with_reducible refine (refblobN a.KA e.K bk _ a.kc bk.length _ ((HK.out.alloc _).drewE) rfl hkl HBK.out rfl).mono ?_); rintro e1 w1 ⟨A1, c1, rfl, hn1⟩; have T1 := (((HT.out.new (below_alloc1 (Below.refl _ _) (Nat.le_refl _) (.cells #[.int .u8 e.k] 5))).drew).new hn1.below); have y0 := T1.c0; have y1 := T1.c1; have B1 := Lib.hid (below_then (belowA HB.out (.cells #[.int .u8 e.k] 5)).drew hn1.below))
    | (go_at_call 53; (with_reducible refine (joinE _ A1 [UInt8.ofNat e.k] bk hd 1 bk.length hd.length 1 c1 _ (RB.oneAt w1 _ (UInt8.ofNat e.k) _ hku.out w1.heap.size rfl) (hn1.own.rb.alloc _) rfl rfl rfl HHD.out (by simp; omega)).mono ?_); rintro e2 w2 ⟨A2, c2, rfl, hn2⟩; have T2 := (T1.new (below_alloc1 (Below.refl _ _) (Nat.le_refl _) (.cells #[.int .u8 e.k] 5))).new hn2.below; have y0 := T2.c0; have y1 := T2.c1; have B2 := Lib.hid (below_then (belowA B1.out (.cells #[.int .u8 e.k] 5)) hn2.below); have hn2o := Lib.hid (hn2.own.mono (belowA B1.out (.cells #[.int .u8 e.k] 5)).size); have hn2r := Lib.hid hn2.own.rb)
    | (go_at_call 53; go_loud (with_reducible refine (joinE _ A1 [UInt8.ofNat e.k] bk hd 1 bk.length hd.length 1 c1 _ (((RB.oneAt _ _ (UInt8.ofNat e.k) _ hku.out _ (asz _ _)).drewE).new hn1.below) hn1.own.rb rfl rfl rfl HHD.out (by simp; omega)).mono ?_); rintro e2 w2 ⟨A2, c2, rfl, hn2⟩; have T2 := T1.new hn2.below; have y0 := T2.c0; have y1 := T2.c1; have B2 := Lib.hid (below_then B1.out hn2.below); have hn2o := Lib.hid (hn2.own.mono B1.out.size); have hn2r := Lib.hid hn2.own.rb))
  all_goals clear hn2
  all_goals
    by_cases h1 : e.k = 1
    · have hb : ((e.k : Int) == 1) = true := by rw [beq_iff_eq]; omega
      have HE := Lib.hid (show hd ++ bv = encL e by unfold encL; rw [if_pos h1, ← HHD.out, ← HBK.out, ← HBV.out]; simp)
      have z0 := T2.c0
      have z2 := T2.c2
      clear h1
      go_wp2_with (first
        | (go_at_call 92; go_loud (with_reducible refine (refblobN a.VA e.V bv _ a.vc bv.length _ (hok.V.new B2.out) rfl hvl HBV.out rfl).mono ?_); rintro e3 w3 ⟨A3, c3, rfl, hn3⟩)
        | (go_at_call 53; go_loud (with_reducible refine (joinE A2 A3 hd bv (encL e) _ bv.length (encL e).length c2 c3 _ (hn2r.out.new hn3.below) hn3.own.rb rfl rfl rfl HE.out (by omega)).mono ?_); rintro e4 w4 ⟨A4, c4, rfl, hn4⟩))
      go_ret
      exact ⟨A4, c4, rfl, hn4.own.mono (Nat.le_trans B2.out.size hn3.below.size), below_then (below_then B2.out hn3.below) hn4.below⟩
    · have hb : ((e.k : Int) == 1) = false := by rw [beq_eq_false_iff_ne]; omega
      have HE := Lib.hid (show hd = encL e by unfold encL; rw [if_neg h1, ← HHD.out, ← HBK.out]; simp)
      have z0 := T2.c0
      rw [HE.out] at hn2o ⊢
      clear hn2r
      clear h1
      go_wp2
      go_ret
      exact ⟨A2, c2, rfl, hn2o.out, B2.out⟩
def docE (e : En) : List UInt8 × Nat := encE e
set_option maxRecDepth 100000 in
theorem docEncode_calls (e : En) (a : EnA) (n m : Nat) (hn : n = e.K.length) (hm : m = e.V.length) (w : World) (hok : EnOk w e a) :
    Calls Try.prog 44 #[.agg #[.int .u8 e.k, .slice a.KA n a.kc, .slice a.VA m a.vc]] w fun r w' => ∃ A' c', r = .returned (.tuple #[.slice A' (encE e).1.length c', .int .i64 (encE e).2]) ∧ NewB w w' (.slice A' (encE e).1.length c') (encE e).1 := by
  subst hn; subst hm
  have HB := Lib.hid (below_alloc1 (Below.refl w.heap.size w) (Nat.le_refl _) (.cells #[.int .u8 e.k, .slice a.KA e.K.length a.kc, .slice a.VA e.V.length a.vc] 26))
  have HT := Lib.hid (Trio.fresh w w.heap.size rfl (.int .u8 e.k) (.slice a.KA e.K.length a.kc) (.slice a.VA e.V.length a.vc) 26)
  by_cases h : chkF e = 0
  · obtain ⟨h1, h2, _⟩ := chk_small e h
    have hE : encE e = (encL e, 0) := by unfold encE; rw [if_pos h]
    rw [hE]
    have HC := Lib.hid (show ((chkF e : Nat) : Int) = 0 by rw [h]; rfl)
    clear hE h
    go_enter Try.func44, Try.ntmps44
    go_wp2_with (first
      | (go_at_call 87; go_loud (with_reducible refine (docCheckN e a.KA a.VA e.K.length e.V.length a.kc a.vc _ rfl rfl 0 HC.out).mono ?_); rintro e1 w1 ⟨rfl, hb1⟩; have T1 := HT.out.new hb1; have d0 := T1.c0; have d1 := T1.c1; have d2 := T1.c2; have B1 := Lib.hid (below_then HB.out hb1))
      | (go_at_call 55; go_loud (with_reducible refine (bytesE_calls e a e.K.length e.V.length rfl rfl _ (hok.new B1.out) (by omega) _ rfl).mono ?_); rintro e2 w2 ⟨A2, c2, rfl, hn2⟩))
    go_ret2
    exact ⟨A2, c2, rfl, hn2.own.mono B1.out.size, below_then B1.out hn2.below⟩
  · have hE : encE e = ([], chkF e) := by unfold encE; rw [if_neg h]
    rw [hE]
    have hb : ((chkF e : Nat) : Int) != 0 := by rw [bne_iff_ne]; omega
    generalize hc : chkF e = c at *
    have HC := Lib.hid (show ((chkF e : Nat) : Int) = (c : Int) by rw [hc])
    clear hE h hc
    go_enter Try.func44, Try.ntmps44
    go_wp2_with (first
      | (go_at_call 87; go_loud (with_reducible refine (docCheckN e a.KA a.VA e.K.length e.V.length a.kc a.vc _ rfl rfl c HC.out).mono ?_); rintro e1 w1 ⟨rfl, hb1⟩; have B1 := Lib.hid (below_then HB.out hb1)))
    go_ret2
    exact ⟨none, 0, rfl, OB.nil _ _ _, B1.out⟩
end Go.Proofs.Ytelecdncdaepnaa
