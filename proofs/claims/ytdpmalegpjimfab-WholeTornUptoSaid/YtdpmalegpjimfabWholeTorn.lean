/- WholeTorn. -/
import Derived.Test.YtdpmalegpjimfabWholeTornMath
import Derived.Test.YtdpmalegpjimfabRowTools
import Derived.Test.YtdpmalegpjimfabLists
import Derived.Test.YtdpmalegpjimfabTopTwin
import Derived.Test.YtdpmalegpjimfabThings
import Derived.Test.YtdpmalegpjimfabFrameFits
import Derived.Test.YtdpmalegpjimfabFrameWalks
import Derived.Test.YtdpmalegpjimfabWireCut
namespace Go.Proofs.Ytdpmalegpjimfab
open Go.RowKit
open FrameMath (laid)

theorem encode_ok (place : Nat) (V : Int) (hV : V = place) (hpl : place ≤ 18446744073709551615) (A : Option Addr) (p L : List UInt8) (n N c : Nat) (w : World) (hp : RB w A c p) (hn : n = p.length) (h1 : 1 ≤ p.length) (h2 : p.length ≤ 65535) (hN : N = p.length + 18) (hL : laid place p = L) :
    Calls Try.prog 34 #[.agg #[.int .u64 V, .slice A n c]] w fun e w' => ∃ A' c', e = .returned (.tuple #[.slice A' N c', .int .i64 0]) ∧ NewB w w' (.slice A' N c') L := by
  subst hV; subst hL
  have hE : encF place p = (laid place p, 0) := by unfold encF; rw [if_neg (by omega), if_neg (by omega)]
  have := encode_calls place hpl A p n c w hp hn (by omega)
  rw [hE] at this
  simp only [FrameMath.laid_length] at this
  rw [hN]
  exact this
theorem short_calls (A : Option Addr) (n c : Nat) (m : Nat) (M : Int) (hM : M = m) (k : Nat) (hk : k = min n m) (hc : n ≤ c) (w : World) :
    Calls Try.prog 35 #[.slice A n c, .int .i64 M] w fun e w' => e = .returned (.slice A k c) ∧ w = w' := by
  by_cases h : m < n
  · obtain rfl : k = m := by omega
    have hcut := fun w' : World => run_cut_h w' A n c M k hM (by omega)
    have hb : M < (n : Int) := by omega
    clear hk hM
    go_enter Try.func35, Try.ntmps35
    go_wp2
    go_ret
    exact ⟨rfl, rfl⟩
  · obtain rfl : k = n := by omega
    have hb : ¬ M < (k : Int) := by omega
    clear hk hM
    go_enter Try.func35, Try.ntmps35
    go_wp2
    go_ret
    exact ⟨rfl, rfl⟩
theorem it_ : ElT Try.prog 73 3 (.int .i64 0) 1 8 := ⟨Try.underlying73, by kernel_rfl, rfl, by decide⟩
theorem lt_ : ElT Try.prog 69 23 (.slice none 0 0) 1 24 := ⟨Try.underlying69, by kernel_rfl, rfl, by decide⟩

/-- the three lists that are gathered -/
structure TS (w wr : World) (va ve vw : Value) (R : List UInt8) (ne : Nat) (es : List Value) (nw : Nat) (ws : List FrV) : Prop where
  all : OB wr w.heap.size 5 va R
  ends : wr.ownsRow w.heap.size 3 1 ve ne es
  want : wr.ownsRow w.heap.size 23 1 vw nw (ws.map FrV.val)
  ae : apartV va ve
  aw : apartV va vw
  ew : apartV ve vw
  rb : ∀ f ∈ ws, RB wr f.A f.c f.pay
  away : ∀ f ∈ ws, ∀ a, f.A = some a → 0 < f.pay.length → va.ownBlock ≠ some a.block ∧ ve.ownBlock ≠ some a.block ∧ vw.ownBlock ≠ some a.block
  below : Below w.heap.size w wr
theorem TS.start (w wr : World) (hb : Below w.heap.size w wr) : TS w wr (.slice none 0 0) (.slice none 0 0) (.slice none 0 0) [] 0 [] 0 [] :=
  ⟨OB.nil _ _ _, World.ownsRow_nil _ _ _ _, World.ownsRow_nil _ _ _ _, .inl rfl, .inl rfl, .inl rfl, fun f hf => by simp at hf, fun f hf => by simp at hf, hb⟩
theorem TS.new {w wr wr' : World} {va ve vw : Value} {R : List UInt8} {ne : Nat} {es : List Value} {nw : Nat} {ws : List FrV} (h : TS w wr va ve vw R ne es nw ws) (hb : Below wr.heap.size wr wr') : TS w wr' va ve vw R ne es nw ws :=
  ⟨h.all.new hb, own_new h.ends hb, own_new h.want hb, h.ae, h.aw, h.ew, fun f hf => (h.rb f hf).new hb, h.away, below_then h.below hb⟩
theorem TS.app_all {w wr wr' : World} {va va' ve vw : Value} {R R' : List UInt8} {ne : Nat} {es : List Value} {nw : Nat} {ws : List FrV} (h : TS w wr va ve vw R ne es nw ws) (ho : OB wr' w.heap.size 5 va' R') (hg : wr.grownBy wr' va.ownBlock) (hv : va'.ownBlock = va.ownBlock ∨ va'.ownBlock = some wr.heap.size) : TS w wr' va' ve vw R' ne es nw ws := by
  refine ⟨ho, h.ends.kept hg h.ae.symm, h.want.kept hg h.aw.symm, (apart_step h.ae.symm (fun k hk => (h.ends.lt k hk).2) hv).symm, (apart_step h.aw.symm (fun k hk => (h.want.lt k hk).2) hv).symm, h.ew, fun f hf => (h.rb f hf).keep fun a e hp => hg.block _ ((h.rb f hf).old.out a e hp) (fun e2 => (h.away f hf a e hp).1 e2.symm), fun f hf a e hp => ?_, h.below.grown hg h.below.size fun k hk => (h.all.at_base k hk).1⟩
  refine ⟨?_, (h.away f hf a e hp).2⟩
  rcases hv with e2 | e2
  · rw [e2]; exact (h.away f hf a e hp).1
  · rw [e2]; intro e3; have := (h.rb f hf).old.out a e hp; have := Option.some.inj e3; omega
theorem TS.app_ends {w wr wr' : World} {va ve ve' vw : Value} {R : List UInt8} {ne ne' : Nat} {es es' : List Value} {nw : Nat} {ws : List FrV} (h : TS w wr va ve vw R ne es nw ws) (ho : wr'.ownsRow w.heap.size 3 1 ve' ne' es') (hg : wr.grownBy wr' ve.ownBlock) (hv : ve'.ownBlock = ve.ownBlock ∨ ve'.ownBlock = some wr.heap.size) : TS w wr' va ve' vw R ne' es' nw ws := by
  refine ⟨h.all.keep hg h.ae, ho, h.want.kept hg h.ew.symm, apart_step h.ae (fun k hk => (h.all.at_base k hk).2) hv, h.aw, (apart_step h.ew.symm (fun k hk => (h.want.lt k hk).2) hv).symm, fun f hf => (h.rb f hf).keep fun a e hp => hg.block _ ((h.rb f hf).old.out a e hp) (fun e2 => (h.away f hf a e hp).2.1 e2.symm), fun f hf a e hp => ?_, h.below.grown hg h.below.size fun k hk => (h.ends.lt k hk).1⟩
  refine ⟨(h.away f hf a e hp).1, ?_, (h.away f hf a e hp).2.2⟩
  rcases hv with e2 | e2
  · rw [e2]; exact (h.away f hf a e hp).2.1
  · rw [e2]; intro e3; have := (h.rb f hf).old.out a e hp; have := Option.some.inj e3; omega
theorem TS.app_want {w wr wr' : World} {va ve vw vw' : Value} {R : List UInt8} {ne : Nat} {es : List Value} {nw : Nat} {ws : List FrV} {g : FrV} (h : TS w wr va ve vw R ne es nw ws) (hr : RB wr g.A g.c g.pay) (hgA : ∀ a, g.A = some a → 0 < g.pay.length → va.ownBlock ≠ some a.block ∧ ve.ownBlock ≠ some a.block ∧ vw.ownBlock ≠ some a.block)
    (ho : wr'.ownsRow w.heap.size 23 1 vw' (nw + 1) (ws.map FrV.val ++ [g.val])) (hg : wr.grownBy wr' vw.ownBlock) (hv : vw'.ownBlock = vw.ownBlock ∨ vw'.ownBlock = some wr.heap.size) : TS w wr' va ve vw' R ne es (nw + 1) (ws ++ [g]) := by
  have hall : ∀ f ∈ ws ++ [g], RB wr f.A f.c f.pay ∧ ∀ a, f.A = some a → 0 < f.pay.length → va.ownBlock ≠ some a.block ∧ ve.ownBlock ≠ some a.block ∧ vw.ownBlock ≠ some a.block := by
    intro f hf
    rcases List.mem_append.1 hf with hf | hf
    · exact ⟨h.rb f hf, h.away f hf⟩
    · obtain rfl := List.mem_singleton.1 hf
      exact ⟨hr, hgA⟩
  refine ⟨h.all.keep hg h.aw, h.ends.kept hg h.ew, by simpa using ho, h.ae, apart_step h.aw (fun k hk => (h.all.at_base k hk).2) hv, apart_step h.ew (fun k hk => (h.ends.lt k hk).2) hv, fun f hf => (hall f hf).1.keep fun a e hp => hg.block _ ((hall f hf).1.old.out a e hp) (fun e2 => ((hall f hf).2 a e hp).2.2 e2.symm), fun f hf a e hp => ?_, h.below.grown hg h.below.size fun k hk => (h.want.lt k hk).1⟩
  refine ⟨((hall f hf).2 a e hp).1, ((hall f hf).2 a e hp).2.1, ?_⟩
  rcases hv with e2 | e2
  · rw [e2]; exact ((hall f hf).2 a e hp).2.2
  · rw [e2]; intro e3; have := (hall f hf).1.old.out a e hp; have := Option.some.inj e3; omega
theorem TS.far_new {w wr : World} {va ve vw : Value} {R : List UInt8} {ne : Nat} {es : List Value} {nw : Nat} {ws : List FrV} (h : TS w wr va ve vw R ne es nw ws) (k : Nat) (hk : wr.heap.size ≤ k ∨ k < w.heap.size) : va.ownBlock ≠ some k ∧ ve.ownBlock ≠ some k ∧ vw.ownBlock ≠ some k := by
  refine ⟨fun e => ?_, fun e => ?_, fun e => ?_⟩
  · have := h.all.at_base k e; omega
  · have := h.ends.lt k e; omega
  · have := h.want.lt k e; omega
/-- a block that none of the three lists lies in -/
structure Far (b : Nat) (va ve vw : Value) : Prop where
  a : va.ownBlock ≠ some b
  e : ve.ownBlock ≠ some b
  w : vw.ownBlock ≠ some b
theorem far_step {b H : Nat} {v v' : Value} (h : v.ownBlock ≠ some b) (hv : v'.ownBlock = v.ownBlock ∨ v'.ownBlock = some H) (hb : b < H) : v'.ownBlock ≠ some b := by
  rcases hv with e | e
  · rw [e]; exact h
  · rw [e]; intro e2; have := Option.some.inj e2; omega
theorem TS.farF {w wr : World} {va ve vw : Value} {R : List UInt8} {ne : Nat} {es : List Value} {nw : Nat} {ws : List FrV} (h : TS w wr va ve vw R ne es nw ws) (k : Nat) (hk : wr.heap.size ≤ k ∨ k < w.heap.size) : Far k va ve vw := ⟨(h.far_new k hk).1, (h.far_new k hk).2.1, (h.far_new k hk).2.2⟩
def endsT (qs : List (List UInt8)) (j : Nat) : List Value := (List.range j).map fun i => .int .i64 ((runL (pcsT (qs.take (i + 1)))).length : Nat)
theorem endsT_succ (qs : List (List UInt8)) (j : Nat) : endsT qs (j + 1) = endsT qs j ++ [.int .i64 ((runL (pcsT (qs.take (j + 1)))).length : Nat)] := by
  unfold endsT
  rw [List.range_succ, List.map_append]; rfl
theorem endsT_length (qs : List (List UInt8)) (j : Nat) : (endsT qs j).length = j := by simp [endsT]
theorem endsT_get (qs : List (List UInt8)) (j i : Nat) (h : i < j) : (endsT qs j)[i]? = some (.int .i64 ((runL (pcsT (qs.take (i + 1)))).length : Nat)) := by simp [endsT, h]

theorem cut_at (f : Nat → Nat) (left : Nat) (h0 : f 0 ≤ left) : ∀ n, ∃ k, k ≤ n ∧ f k ≤ left ∧ (∀ i, i < k → f (i + 1) ≤ left) ∧ (k < n → left < f (k + 1)) := by
  intro n
  induction n with
  | zero => exact ⟨0, Nat.le_refl _, h0, fun i hi => by omega, fun h => by omega⟩
  | succ n ih =>
    obtain ⟨k, h1, h2, h3, h4⟩ := ih
    by_cases hk : k < n
    · exact ⟨k, by omega, h2, h3, fun _ => h4 hk⟩
    · obtain rfl : k = n := by omega
      by_cases hf : f (k + 1) ≤ left
      · refine ⟨k + 1, Nat.le_refl _, hf, fun i hi => ?_, fun h => by omega⟩
        by_cases hik : i = k
        · rw [hik]; exact hf
        · exact h3 i (by omega)
      · exact ⟨k, by omega, h2, h3, fun _ => by omega⟩
theorem toptwinR (A : Option Addr) (p : List UInt8) (n cap : Nat) (w : World) (hp : RB w A cap p) (hn : n = p.length) (hl : p.length ≤ 140737488355328) :
    Calls Try.prog 36 #[.slice A n cap] w fun e w' => ∃ A' c', e = .returned (.slice A' n c') ∧ NewB w w' (.slice A' n c') p := by
  subst hn; exact toptwin_calls A p cap w hp hl

set_option maxHeartbeats 2000000 in
set_option maxRecDepth 100000 in
theorem wholeTorn_calls (A : Option Addr) (l : List LsV) (n c : Nat) (at_ ns : Int) (hat : 0 ≤ at_ ∧ at_ ≤ 4294967295) (hns : 0 ≤ ns ∧ ns ≤ 65535) (w : World) (h : Lsts w A l) (hn : n = l.length) (hs : (l.map fun o => o.P.length + 1).sum ≤ 1048576) :
    Calls Try.prog 7 #[.slice A n c, .int .u32 at_, .int .u16 ns] w fun e w' => e = .returned (.bool true) ∧ Below w.heap.size w w' := by
  subst hn
  obtain ⟨at_, rfl⟩ := Int.eq_ofNat_of_zero_le hat.1
  obtain ⟨m, rfl⟩ := Int.eq_ofNat_of_zero_le hns.1
  obtain ⟨qs, hqs⟩ : ∃ qs : List (List UInt8), qs = l.map fun o => o.P := ⟨_, rfl⟩
  have hql : qs.length = l.length := by rw [hqs]; simp
  have hbk : bulkL qs ≤ 1048576 := by rw [hqs]; unfold bulkL; rw [List.map_map]; exact hs
  have hlen : l.length ≤ 1048576 := by rw [← hql]; exact Nat.le_trans (bulkL_len qs) hbk
  have HQL := Lib.hid hql
  have HQS := Lib.hid hqs
  have HBK := Lib.hid hbk
  have hR : ∀ j, (runL (pcsT (qs.take j))).length ≤ 20971520 := fun j => by have h1 := runT_le qs j; have h2 := bulkL_take qs j; omega
  have HR := Lib.hid hR
  clear hql hqs hbk hs hR
  have h9 := Lib.hid (show (9 : Int) = ((9 : Nat) : Int) from rfl)
  have HLD := Lib.hid (rfl : laid 9 [1] = laid 9 [1])
  have hsc := scan_run [(9, [1])] [] (by intro p hp; obtain rfl := List.mem_singleton.1 hp; exact ⟨by decide, by decide, by decide⟩) (by have := noughts_none 0; simpa using this)
  have hld9 : runL [(9, [1])] = laid 9 [1] := by simp [runL]
  rw [List.append_nil, hld9, FrameMath.laid_length] at hsc
  have hll := FrameMath.laid_length 9 [1]
  generalize hL9 : laid 9 [1] = L9 at *
  have hscan9 : ∀ (w' : World) (A' : Option Addr) (c' : Nat), RB w' A' c' L9 → Calls Try.prog 19 #[.slice A' 19 c'] w' fun e w'' => ∃ A' c' fs, e = .returned (.tuple #[.slice A' 1 c', .int .i64 19]) ∧ FL w'' w'.heap.size 33 (.slice A' 1 c') fs ∧ frOf fs = [(9, [1])] ∧ Below w'.heap.size w' w'' := by
    intro w' A' c' h
    have := scan_calls A' _ 19 c' w' h hll.symm (by rw [hll]; decide)
    rw [hsc] at this
    exact this
  have HSC9 := Lib.hid hscan9
  have HL9 := Lib.hid hL9
  have hlit1 := Lib.hid (fun (w : World) (e : TypeId) => RB.lit w e (0, 0) #[.int .u8 1] [1] rfl 1 rfl (by decide))
  have hlit0 := Lib.hid (fun (w : World) (e : TypeId) => RB.lit w e (0, 0) #[.int .u8 0] [0] rfl 1 rfl (by decide))
  clear hsc hld9 hll hL9 hscan9
  go_enter Try.func7, Try.ntmps7
  go_wp2_with (first
    | (go_at_call 34; go_loud (with_reducible refine (encode_ok 9 9 h9.out (by decide) _ [1] L9 1 19 1 _ (hlit1.out _ _) (by decide) (by decide) (by decide) (by decide) HL9.out).mono ?_); rintro e1 w1 ⟨A1, c1, rfl, hn1⟩; have B1 := Lib.hid (below_then (belowA (Below.refl w.heap.size w) (.cells #[.int .u8 1] 5)) hn1.below))
    | (go_at_call 19; go_loud (with_reducible refine (HSC9.out _ A1 c1 hn1.own.rb).mono ?_); rintro e2 w2 ⟨A2, c2, fs9, rfl, hf2, he2, hb2⟩; (obtain ⟨f9, hf9, hp9⟩ : ∃ f, fs9[0]? = some f ∧ f.place = 9 := by (match fs9, he2 with | [f], he2 => (simp [frOf] at he2; exact ⟨f, rfl, he2.1⟩))); (obtain ⟨p9, d9, e9, _, k9, _⟩ := hf2.at_ 0 f9 hf9); injection e9 with e9a e9b e9c; subst e9a; subst e9c; rw [hp9] at k9; clear e9b hp9 hf9 he2; have B2 := Lib.hid (below_then B1.out hb2)))
  clear hf2
  go_loopw [11, 12, 13, 14] (fun va ve vw i wr => ∃ (j : Nat) (R : List UInt8) (ws : List FrV) (Aa : Option Addr) (ca : Nat) (Ae : Option Addr) (ce : Nat) (Aw : Option Addr) (cw : Nat), j ≤ l.length ∧ i = .int .i64 j ∧ va = .slice Aa R.length ca ∧ ve = .slice Ae j ce ∧ vw = .slice Aw j cw ∧ Hid (R = runL (pcsT (qs.take j))) ∧ TS w wr (.slice Aa R.length ca) (.slice Ae j ce) (.slice Aw j cw) R j (endsT qs j) j ws ∧ Hid (ws.map FrV.pay = (qs.take j).map sT)) (fun _ _ _ i _ => l.length - (intOf i).toNat)
  case atStart => exact ⟨0, [], [], none, 0, none, 0, none, 0, Nat.zero_le _, rfl, rfl, rfl, rfl, Lib.hid rfl, TS.start w w2 B2.out, Lib.hid rfl⟩
  case round =>
    obtain ⟨j, R, ws, Aa, ca, Ae, ce, Aw, cw, hj, rfl, rfl, rfl, rfl, HRR, HT, HW⟩ := hrel
    by_cases hlt : j < l.length
    · obtain ⟨a, o, rfl, ho, hmem, hok, k0⟩ := (h.new HT.below).at_ j hlt
      have hqj : qs[j]? = some o.P := by rw [HQS.out, List.getElem?_map, ho]; rfl
      have HT := Lib.hid HT
      have HQJ : Hid (qs[j]'(by rw [HQL.out]; exact hlt) = o.P) := Lib.hid (by obtain ⟨_, e⟩ := List.getElem?_eq_some_iff.1 hqj; exact e)
      have H65 := Lib.hid (show (65535 : Int) = ((65535 : Nat) : Int) from rfl)
      have HOK := Lib.hid (h.ok o hmem)
      clear ho
      by_cases hq0 : o.P.length = 0
      · have HMIN : Hid (0 = min o.P.length 65535) := Lib.hid (by omega)
        have HK : Hid (1 = (sT o.P).length) := Lib.hid (by unfold sT; rw [if_pos hq0]; rfl)
        have HS0 : Hid (sT o.P = [0]) := Lib.hid (by unfold sT; rw [if_pos hq0])
        have rb0 : Hid (RB (wr.alloc (.cells #[.int .u8 0] 5)) (some ⟨wr.heap.size, 0, none⟩) 1 (sT o.P)) := Lib.hid (by rw [HS0.out]; exact hlit0.out wr 5)
        have F0 : Hid (∀ a, (some ⟨wr.heap.size, 0, Option.none⟩ : Option Addr) = some a → 0 < (sT o.P).length → Far a.block (.slice Aa R.length ca) (.slice Ae j ce) (.slice Aw j cw)) := Lib.hid (fun a e hp => HT.out.farF a.block (.inl (by obtain rfl := Option.some.inj e; exact Nat.le_refl _)))
        clear hq0
        generalize hld : laid j (sT o.P) = ld at *
        have HLD := Lib.hid hld
        have HLL := Lib.hid (show ld.length = 1 + 18 by rw [← hld, FrameMath.laid_length, HK.out])
        have HSN : Hid (R ++ ld = runL (pcsT (qs.take (j + 1)))) := Lib.hid (by rw [HRR.out, pcsT_snoc qs j o.P hqj, hld])
        have hR1 := HR.out (j + 1)
        have hsok := sT_ok o.P
        have HS1 : Hid (1 ≤ (sT o.P).length) := Lib.hid hsok.1
        have HS2 : Hid ((sT o.P).length ≤ 65535) := Lib.hid hsok.2
        generalize hRn : runL (pcsT (qs.take (j + 1))) = Rn at *
        have HRN := Lib.hid hRn
        clear hld hsok hRn hqj
        go_wp2_with (first
          | (go_at_call 35; go_loud (with_reducible refine (short_calls o.A o.P.length o.c 65535 65535 H65.out _ HMIN.out hok.len _).mono ?_); rintro e3 w3 ⟨rfl, rfl⟩)
          | (go_at_call 34; go_loud (with_reducible refine (encode_ok j j rfl (by omega) _ (sT o.P) ld 1 (1 + 18) 1 _ rb0.out HK.out HS1.out HS2.out (by rw [← HK.out]) HLD.out).mono ?_); rintro e4 w4 ⟨A4, c4, rfl, hn4⟩; have T4 := Lib.hid (TS.new (HT.out.new (below_alloc1 (Below.refl _ _) (Nat.le_refl _) _)) hn4.below); have rb4 := Lib.hid (RB.new rb0.out hn4.below))
          | (refine wp_appendB_at bt rfl (.tmp 88) (.tmp 89) rfl w.heap.size _ R rfl T4.out.all A4 ld _ c4 rfl HLL.out.symm hn4.own.rb (by have := HLL.out; have := congrArg List.length HSN.out; rw [List.length_append] at this; omega) T4.out.below.size Rn HSN.out fun A5 c5 w5 ho5 hg5 hr5 => ?_; have T5 := Lib.hid (T4.out.app_all ho5 hg5 hr5); have F5 : Hid (∀ a, (some ⟨wr.heap.size, 0, Option.none⟩ : Option Addr) = some a → 0 < (sT o.P).length → Far a.block (.slice A5 Rn.length c5) (.slice Ae j ce) (.slice Aw j cw)) := Lib.hid (fun a e hp => ⟨far_step (F0.out a e hp).a hr5 (rb4.out.old.out a e hp), (F0.out a e hp).e, (F0.out a e hp).w⟩); have rb5 := Lib.hid (RB.keep rb4.out (fun a e hp => hg5.block _ (rb4.out.old.out a e hp) (fun e2 => (F0.out a e hp).a e2.symm))))
          | (refine wp_appendG it_ rfl (.tmp 91) (.tmp 94) rfl w.heap.size _ j (endsT qs j) rfl (T5.out.new (below_alloc1 (Below.refl _ _) (Nat.le_refl _) _)).ends ⟨w5.heap.size, 0, Option.none⟩ 1 1 [.int .i64 Rn.length] rfl rfl (fun i u hu => cell_one_new w5 _ _ i u hu) (fun u hu => by obtain rfl := List.mem_singleton.1 hu; rfl) (by omega) (by decide) (by rw [asz]; have := T5.out.below.size; omega) fun A6 c6 w6 ho6 hg6 hr6 => ?_; have T6 := Lib.hid ((T5.out.new (below_alloc1 (Below.refl _ _) (Nat.le_refl _) _)).app_ends ho6 hg6 hr6); have F6 : Hid (∀ a, (some ⟨wr.heap.size, 0, Option.none⟩ : Option Addr) = some a → 0 < (sT o.P).length → Far a.block (.slice A5 Rn.length c5) (.slice A6 (j + 1) c6) (.slice Aw j cw)) := Lib.hid (fun a e hp => ⟨(F5.out a e hp).a, far_step (F5.out a e hp).e hr6 ((rb5.out.alloc _).old.out a e hp), (F5.out a e hp).w⟩); have rb6 := Lib.hid (RB.keep (rb5.out.alloc (.cells #[.int .i64 Rn.length] 3)) (fun a e hp => hg6.block _ ((rb5.out.alloc _).old.out a e hp) (fun e2 => (F5.out a e hp).e e2.symm))))
          | (refine wp_appendG lt_ rfl (.tmp 96) (.tmp 98) rfl w.heap.size _ j (ws.map FrV.val) rfl (T6.out.new (below_alloc1 (Below.refl _ _) (Nat.le_refl _) _)).want ⟨w6.heap.size, 0, Option.none⟩ 1 1 [.slice (some ⟨wr.heap.size, 0, Option.none⟩) 1 1] rfl rfl (fun i u hu => cell_one_new w6 _ _ i u hu) (fun u hu => by obtain rfl := List.mem_singleton.1 hu; rfl) (by omega) (by decide) (by rw [asz]; have := T6.out.below.size; omega) fun A7 c7 w7 ho7 hg7 hr7 => ?_))
        go_roundw
        case rel =>
          have e9 : FrV.val ⟨0, (some ⟨wr.heap.size, 0, Option.none⟩), 1, sT o.P⟩ = .slice (some ⟨wr.heap.size, 0, Option.none⟩) 1 1 := by unfold FrV.val; rw [← HK.out]
          have T7 := TS.app_want (g := ⟨0, (some ⟨wr.heap.size, 0, Option.none⟩), 1, sT o.P⟩) (T6.out.new (below_alloc1 (Below.refl _ _) (Nat.le_refl _) (.cells #[.slice (some ⟨wr.heap.size, 0, Option.none⟩) 1 1] 23))) (rb6.out.alloc _) (fun a e hp => ⟨(F6.out a e hp).a, (F6.out a e hp).e, (F6.out a e hp).w⟩) (by rw [e9]; exact ho7) hg7 hr7
          have e8 : endsT qs j ++ [.int .i64 Rn.length] = endsT qs (j + 1) := by rw [endsT_succ, HRN.out]
          rw [e8] at T7
          exact ⟨j + 1, Rn, _, A5, c5, A6, c6, A7, c7, by omega, by go_num, rfl, rfl, rfl, Lib.hid HRN.out.symm, T7, Lib.hid (by rw [List.map_append, HW.out, List.take_succ_eq_append_getElem (by rw [HQL.out]; exact hlt), List.map_append]; simp [HQJ.out])⟩
        case measure => simp [intOf]; omega
      · obtain ⟨k, hk⟩ : ∃ k, k = min o.P.length 65535 := ⟨_, rfl⟩
        have HMIN := Lib.hid hk
        have HK : Hid (k = (sT o.P).length) := Lib.hid (by unfold sT; rw [if_neg hq0, List.length_take]; omega)
        have rb0 : Hid (RB wr o.A o.c (sT o.P)) := Lib.hid (by unfold sT; rw [if_neg hq0]; exact hok.take _)
        have HOLD : Hid (Old w.heap.size o.A (sT o.P)) := Lib.hid ⟨fun a e _ => HOK.out.old.out a e (by omega)⟩
        have F0 : Hid (∀ a, o.A = some a → 0 < (sT o.P).length → Far a.block (.slice Aa R.length ca) (.slice Ae j ce) (.slice Aw j cw)) := Lib.hid (fun a e hp => HT.out.farF a.block (.inr (HOLD.out.out a e hp)))
        have hk0 : ¬ k = 0 := by omega
        have hk1 : k ≤ 65535 := by omega
        clear hq0 hk
        generalize hld : laid j (sT o.P) = ld at *
        have HLD := Lib.hid hld
        have HLL := Lib.hid (show ld.length = k + 18 by rw [← hld, FrameMath.laid_length, HK.out])
        have HSN : Hid (R ++ ld = runL (pcsT (qs.take (j + 1)))) := Lib.hid (by rw [HRR.out, pcsT_snoc qs j o.P hqj, hld])
        have hR1 := HR.out (j + 1)
        have hsok := sT_ok o.P
        have HS1 : Hid (1 ≤ (sT o.P).length) := Lib.hid hsok.1
        have HS2 : Hid ((sT o.P).length ≤ 65535) := Lib.hid hsok.2
        generalize hRn : runL (pcsT (qs.take (j + 1))) = Rn at *
        have HRN := Lib.hid hRn
        clear hld hsok hRn hqj
        go_wp2_with (first
          | (go_at_call 35; go_loud (with_reducible refine (short_calls o.A o.P.length o.c 65535 65535 H65.out _ HMIN.out hok.len _).mono ?_); rintro e3 w3 ⟨rfl, rfl⟩)
          | (go_at_call 34; go_loud (with_reducible refine (encode_ok j j rfl (by omega) _ (sT o.P) ld k (k + 18) o.c _ rb0.out HK.out HS1.out HS2.out (by rw [← HK.out]) HLD.out).mono ?_); rintro e4 w4 ⟨A4, c4, rfl, hn4⟩; have T4 := Lib.hid (TS.new HT.out hn4.below); have rb4 := Lib.hid (RB.new rb0.out hn4.below))
          | (refine wp_appendB_at bt rfl (.tmp 88) (.tmp 89) rfl w.heap.size _ R rfl T4.out.all A4 ld _ c4 rfl HLL.out.symm hn4.own.rb (by have := HLL.out; have := congrArg List.length HSN.out; rw [List.length_append] at this; omega) T4.out.below.size Rn HSN.out fun A5 c5 w5 ho5 hg5 hr5 => ?_; have T5 := Lib.hid (T4.out.app_all ho5 hg5 hr5); have F5 : Hid (∀ a, o.A = some a → 0 < (sT o.P).length → Far a.block (.slice A5 Rn.length c5) (.slice Ae j ce) (.slice Aw j cw)) := Lib.hid (fun a e hp => ⟨far_step (F0.out a e hp).a hr5 (rb4.out.old.out a e hp), (F0.out a e hp).e, (F0.out a e hp).w⟩); have rb5 := Lib.hid (RB.keep rb4.out (fun a e hp => hg5.block _ (rb4.out.old.out a e hp) (fun e2 => (F0.out a e hp).a e2.symm))))
          | (refine wp_appendG it_ rfl (.tmp 91) (.tmp 94) rfl w.heap.size _ j (endsT qs j) rfl (T5.out.new (below_alloc1 (Below.refl _ _) (Nat.le_refl _) _)).ends ⟨w5.heap.size, 0, Option.none⟩ 1 1 [.int .i64 Rn.length] rfl rfl (fun i u hu => cell_one_new w5 _ _ i u hu) (fun u hu => by obtain rfl := List.mem_singleton.1 hu; rfl) (by omega) (by decide) (by rw [asz]; have := T5.out.below.size; omega) fun A6 c6 w6 ho6 hg6 hr6 => ?_; have T6 := Lib.hid ((T5.out.new (below_alloc1 (Below.refl _ _) (Nat.le_refl _) _)).app_ends ho6 hg6 hr6); have F6 : Hid (∀ a, o.A = some a → 0 < (sT o.P).length → Far a.block (.slice A5 Rn.length c5) (.slice A6 (j + 1) c6) (.slice Aw j cw)) := Lib.hid (fun a e hp => ⟨(F5.out a e hp).a, far_step (F5.out a e hp).e hr6 ((rb5.out.alloc _).old.out a e hp), (F5.out a e hp).w⟩); have rb6 := Lib.hid (RB.keep (rb5.out.alloc (.cells #[.int .i64 Rn.length] 3)) (fun a e hp => hg6.block _ ((rb5.out.alloc _).old.out a e hp) (fun e2 => (F5.out a e hp).e e2.symm))))
          | (refine wp_appendG lt_ rfl (.tmp 96) (.tmp 98) rfl w.heap.size _ j (ws.map FrV.val) rfl (T6.out.new (below_alloc1 (Below.refl _ _) (Nat.le_refl _) _)).want ⟨w6.heap.size, 0, Option.none⟩ 1 1 [.slice o.A k o.c] rfl rfl (fun i u hu => cell_one_new w6 _ _ i u hu) (fun u hu => by obtain rfl := List.mem_singleton.1 hu; rfl) (by omega) (by decide) (by rw [asz]; have := T6.out.below.size; omega) fun A7 c7 w7 ho7 hg7 hr7 => ?_))
        go_roundw
        case rel =>
          have e9 : FrV.val ⟨0, o.A, o.c, sT o.P⟩ = .slice o.A k o.c := by unfold FrV.val; rw [← HK.out]
          have T7 := TS.app_want (g := ⟨0, o.A, o.c, sT o.P⟩) (T6.out.new (below_alloc1 (Below.refl _ _) (Nat.le_refl _) (.cells #[.slice o.A k o.c] 23))) (rb6.out.alloc _) (fun a e hp => ⟨(F6.out a e hp).a, (F6.out a e hp).e, (F6.out a e hp).w⟩) (by rw [e9]; exact ho7) hg7 hr7
          have e8 : endsT qs j ++ [.int .i64 Rn.length] = endsT qs (j + 1) := by rw [endsT_succ, HRN.out]
          rw [e8] at T7
          exact ⟨j + 1, Rn, _, A5, c5, A6, c6, A7, c7, by omega, by go_num, rfl, rfl, rfl, Lib.hid HRN.out.symm, T7, Lib.hid (by rw [List.map_append, HW.out, List.take_succ_eq_append_getElem (by rw [HQL.out]; exact hlt), List.map_append]; simp [HQJ.out])⟩
        case measure => simp [intOf]; omega
    · obtain rfl : j = l.length := by omega
      obtain ⟨wo, rfl⟩ : ∃ wo : World, wo = wr := ⟨_, rfl⟩
      have e1 : qs.take l.length = qs := List.take_of_length_le (by rw [HQL.out]; exact Nat.le_refl _)
      rw [e1] at HRR HW
      have hRl : R.length ≤ 20971520 := by rw [HRR.out]; have := HR.out l.length; rwa [e1] at this
      have hm1 : (0 : Int) ≤ (at_ : Int) % ((R.length : Int) + 1) := Int.emod_nonneg _ (by omega)
      have hm3 : at_ % (R.length + 1) < R.length + 1 := Nat.mod_lt _ (by omega)
      have hm4 : (at_ : Int) % ((R.length : Int) + 1) = ((at_ % (R.length + 1) : Nat) : Int) := by simp
      have hm2 : (at_ : Int) % ((R.length : Int) + 1) ≤ (ca : Int) := by
        have := HT.all.rb.len
        rw [hm4]; omega
      obtain ⟨left, hleft⟩ : ∃ left, left = at_ % (R.length + 1) := ⟨_, rfl⟩
      have HM4 := Lib.hid hm4
      have hl3 : left ≤ R.length := by omega
      have HLF := Lib.hid hleft
      have HTK := Lib.hid (show at_ % (R.length + 1) = (R.take left).length by rw [List.length_take, ← hleft]; omega)
      have HT := Lib.hid HT
      clear hlt e1 hm3 hm4 hleft
      go_wp2_with (go_at_call 36; go_loud (with_reducible refine (toptwinR Aa (R.take left) _ ca _ (HT.out.all.rb.take left) HTK.out (by rw [List.length_take]; omega)).mono ?_); rintro e8 w8 ⟨A8, c8, rfl, hn8⟩)
      rw [HM4.out, ← HLF.out]
      rw [← HLF.out] at hn8
      have HRl := Lib.hid hRl
      clear hm1 hm2 hRl
      have hmm : m ≤ 65535 := by omega
      have HLF2 := Lib.hid (show (R.take left).length = left by rw [List.length_take]; omega)
      have hn8' : OB w8 wo.heap.size 5 (.slice A8 (R.take left ++ List.replicate 0 0).length c8) (R.take left ++ List.replicate 0 0) := by
        rw [List.replicate_zero, List.append_nil, HLF2.out]; exact hn8.own
      have HOB8 := Lib.hid hn8'
      have HLF3 := Lib.hid (show left = (R.take left ++ List.replicate 0 0).length by rw [List.replicate_zero, List.append_nil, HLF2.out])
      clear hn8'
      go_loopw [19, 20] (fun v i wr => ∃ (k : Nat) (A9 : Option Addr) (c9 : Nat), k ≤ m ∧ i = .int .i64 k ∧ v = .slice A9 (R.take left ++ List.replicate k 0).length c9 ∧ OB wr wo.heap.size 5 (.slice A9 (R.take left ++ List.replicate k 0).length c9) (R.take left ++ List.replicate k 0) ∧ Below wo.heap.size wo wr) (fun _ i _ => m - (intOf i).toNat)
      case atStart => exact ⟨0, A8, c8, Nat.zero_le _, rfl, by rw [← HLF3.out], HOB8.out, hn8.below⟩
      case round =>
        obtain ⟨k, A9, c9, hk, rfl, rfl, HO, HB9⟩ := hrel
        have HX : Hid ((R.take left ++ List.replicate k 0) ++ [0] = R.take left ++ List.replicate (k + 1) 0) := Lib.hid (by rw [List.append_assoc, ← List.replicate_succ'])
        have HXl : Hid ((R.take left ++ List.replicate k 0).length ≤ 21100000) := Lib.hid (by rw [List.length_append, HLF2.out, List.length_replicate]; have := HRl.out; omega)
        by_cases hlt : k < m
        · generalize hq1 : R.take left ++ List.replicate (k + 1) 0 = q1 at *
          have HQ1 := Lib.hid hq1
          clear hq1
          generalize R.take left ++ List.replicate k 0 = q0 at *
          go_wp2_with (refine wp_appendB_at bt rfl (.tmp 116) (.tmp 117) rfl wo.heap.size _ q0 rfl (HO.alloc _) (some ⟨wr.heap.size, 0, Option.none⟩) [0] 1 1 rfl rfl (hlit0.out wr _) (by have := HXl.out; simp; omega) (by rw [asz]; have := HB9.size; omega) q1 HX.out fun A10 c10 w10 ho10 hg10 hr10 => ?_)
          go_roundw
          case rel => exact ⟨k + 1, A10, c10, by omega, by go_num, by rw [HQ1.out], by rw [HQ1.out]; exact ho10, (belowA HB9 _).grown hg10 (belowA HB9 (.cells #[.int .u8 0] 5)).size (fun b e => (HO.at_base b e).1)⟩
          case measure => simp [intOf]; omega
        · obtain rfl : k = m := by omega
          obtain ⟨K, K1, K2, K3, K4⟩ := cut_at (fun i => (runL (pcsT (qs.take i))).length) left (by simp [pcsT, runL]) l.length
          have hsc := scan_cut (pcsT qs) (pcsT_ok qs (by rw [HQL.out]; omega)) left k K (by rw [pcsT_length, HQL.out]; exact K1) (by rw [pcsT_take]; exact K2) (by rw [pcsT_length, HQL.out, pcsT_take]; exact K4)
          rw [← HRR.out, pcsT_take] at hsc
          have hsl : (pcsT (qs.take K)).length = K := by rw [pcsT_length, List.length_take, HQL.out]; omega
          have hql : (R.take left ++ List.replicate k 0).length ≤ 70368744177664 := by have := HXl.out; omega
          have hscan : ∀ (w' : World) (A' : Option Addr) (n' c' : Nat), RB w' A' c' (R.take left ++ List.replicate k 0) → n' = (R.take left ++ List.replicate k 0).length → Calls Try.prog 19 #[.slice A' n' c'] w' fun e w'' => ∃ A' c' fs, e = .returned (.tuple #[.slice A' K c', .int .i64 (runL (pcsT (qs.take K))).length]) ∧ FL w'' w'.heap.size 33 (.slice A' K c') fs ∧ frOf fs = pcsT (qs.take K) ∧ Below w'.heap.size w' w'' := by
            intro w' A' n' c' h hn
            have := scan_calls A' _ n' c' w' h hn hql
            rw [hsc, hsl] at this
            exact this
          have HSC := Lib.hid hscan
          have hK3 : ∀ i, i < K → (((runL (pcsT (qs.take (i + 1)))).length : Nat) : Int) ≤ (left : Int) := fun i hi => by have := K3 i hi; omega
          have hK4 : K < l.length → ¬ (((runL (pcsT (qs.take (K + 1)))).length : Nat) : Int) ≤ (left : Int) := fun hi => by have := K4 hi; omega
          have HK3 := Lib.hid hK3
          have HK4 := Lib.hid hK4
          have TT := Lib.hid (HT.out.new HB9)
          generalize R.take left ++ List.replicate k 0 = q0 at *
          clear K2 K3 K4 hsc hsl hql hscan hK3 hK4 hlt
          go_wp2_with (go_at_call 19; go_loud (with_reducible refine (HSC.out _ A9 _ c9 HO.rb rfl).mono ?_); rintro e10 w10 ⟨A10, c10, fs, rfl, hf10, he10, hb10⟩; have HE10 := Lib.hid he10; have T10 := Lib.hid (TT.out.new hb10); clear he10)
          go_loop [23] (fun i => ∃ i0 : Nat, i0 ≤ K ∧ i = .int .i64 i0) (fun i => K - (intOf i).toNat)
          case atStart => exact ⟨0, Nat.zero_le _, rfl⟩
          case round =>
            obtain ⟨i, hi, rfl⟩ := hrel
            by_cases hlt : i < K
            · obtain ⟨g, d, e1, _, kc⟩ := own_at T10.out.ends i _ (endsT_get qs l.length i (by omega))
              injection e1 with e1a e1b e1c
              subst e1a; subst e1c
              clear e1b
              have t1 : i < l.length := by omega
              have t2 := HK3.out i hlt
              go_wp2
              go_round
              case rel => exact ⟨i + 1, by omega, by go_num⟩
              case measure => simp [intOf]; omega
            · obtain rfl : i = K := by omega
              clear hlt
              have hFL : fs.length = i := by
                have h1 := congrArg List.length HE10.out
                rw [pcsT_length, List.length_take, HQL.out] at h1
                simp only [frOf, List.length_map] at h1
                omega
              have HFL := Lib.hid hFL
              clear hFL
              have hopen : ∀ x, (endsT qs l.length)[x]? = some (.int .i64 ((runL (pcsT (qs.take (x + 1)))).length : Nat)) → ∃ g, Ae = some ⟨g, 0, Option.none⟩ ∧ w10.cell? ⟨g, x, Option.none⟩ = some (.int .i64 ((runL (pcsT (qs.take (x + 1)))).length : Nat)) := fun x hx => by
                obtain ⟨g, d, e1, _, kc⟩ := own_at T10.out.ends x _ hx
                injection e1 with e1a e1b e1c
                exact ⟨g, e1a, kc⟩
              have HOPEN := Lib.hid hopen
              clear hopen
              have hlast : (i = 0) ∨ ∃ i', i = i' + 1 := by cases i with
                | zero => exact .inl rfl
                | succ i' => exact .inr ⟨i', rfl⟩
              obtain ⟨v, hv⟩ : ∃ v, v = (runL (pcsT (qs.take i))).length := ⟨_, rfl⟩
              rw [← hv]
              have hside : (¬ i < l.length) ∨ (i < l.length ∧ ∃ g u, Ae = some ⟨g, 0, Option.none⟩ ∧ ¬ u ≤ left ∧ w10.cell? ⟨g, i, Option.none⟩ = some (.int .i64 (u : Nat))) := by
                by_cases t1 : i < l.length
                · have t2 := HK4.out t1
                  obtain ⟨g, e, kc⟩ := HOPEN.out i (endsT_get qs l.length i t1)
                  exact .inr ⟨t1, g, _, e, by omega, kc⟩
                · exact .inl t1
              have hside2 : (i = 0 ∧ v = 0) ∨ (∃ i' g, i = i' + 1 ∧ Ae = some ⟨g, 0, Option.none⟩ ∧ w10.cell? ⟨g, i', Option.none⟩ = some (.int .i64 (v : Nat))) := by
                rcases hlast with h0 | ⟨i', h1⟩
                · refine .inl ⟨h0, ?_⟩
                  rw [hv, h0]; simp [pcsT, runL]
                · obtain ⟨g, e, kc⟩ := HOPEN.out i' (endsT_get qs l.length i' (by omega))
                  exact .inr ⟨i', g, h1, e, by rw [hv, h1]; exact kc⟩
              have HTW := Lib.hid T10.out.want
              have HTR := Lib.hid T10.out.rb
              have HTB := Lib.hid T10.out.below
              have HWL := Lib.hid (show ws.length = l.length by have := congrArg List.length HW.out; simpa [HQL.out] using this)
              clear HOPEN hv hlast HK3 HK4 HT TT T10 HRR HLF HLF2 HLF3 HOB8 HO HX HXl hn8 HSC
              rcases hside with t1 | ⟨t1, g, u, rfl, t2, kc⟩
              · rcases hside2 with ⟨rfl, rfl⟩ | ⟨i', g', rfl, rfl, kc'⟩
                · go_wp2
                  go_loopw [24] (fun iv wr => ∃ x : Nat, x ≤ 0 ∧ iv = .int .i64 x ∧ Below w10.heap.size w10 wr) (fun iv _ => 0 - (intOf iv).toNat)
                  case atStart => exact ⟨0, Nat.zero_le _, rfl, Below.refl _ _⟩
                  case round =>
                    obtain ⟨x, hx, rfl, HBx⟩ := hrel
                    by_cases hlt : x < 0
                    · exact absurd hlt (Nat.not_lt_zero _)
                    · obtain rfl : x = 0 := by omega
                      clear hlt
                      go_wp2
                      go_ret
                      exact ⟨rfl, below_then HTB.out HBx⟩
                · go_wp2
                  go_loopw [24] (fun iv wr => ∃ x : Nat, x ≤ (i' + 1) ∧ iv = .int .i64 x ∧ Below w10.heap.size w10 wr) (fun iv _ => (i' + 1) - (intOf iv).toNat)
                  case atStart => exact ⟨0, Nat.zero_le _, rfl, Below.refl _ _⟩
                  case round =>
                    obtain ⟨x, hx, rfl, HBx⟩ := hrel
                    by_cases hlt : x < (i' + 1)
                    · obtain ⟨q, hq⟩ : ∃ q, qs[x]? = some q := ⟨_, List.getElem?_eq_getElem (by rw [HQL.out]; omega)⟩
                      obtain ⟨f, hf⟩ : ∃ f, fs[x]? = some f := ⟨_, List.getElem?_eq_getElem (by rw [HFL.out]; exact hlt)⟩
                      obtain ⟨fw, hfw⟩ : ∃ f, ws[x]? = some f := ⟨_, List.getElem?_eq_getElem (by rw [HWL.out]; omega)⟩
                      have hf2 : f.place = x ∧ f.pay = sT q := by
                        have h1 := congrArg (·[x]?) HE10.out
                        have h2 := pcsT_get (qs.take (i' + 1)) x q (by rw [List.getElem?_take, if_pos hlt]; exact hq)
                        simp only [frOf, List.getElem?_map, hf, Option.map_some] at h1
                        rw [h2] at h1
                        have := Option.some.inj h1
                        exact ⟨congrArg Prod.fst this, congrArg Prod.snd this⟩
                      have hw2 : fw.pay = sT q := by
                        have h1 := congrArg (·[x]?) HW.out
                        simp only [List.getElem?_map, hfw, hq, Option.map_some] at h1
                        exact Option.some.inj h1
                      have HS := Lib.hid (show (f.pay == fw.pay) = true by rw [hf2.2, hw2, beq_self_eq_true])
                      have H1 := hf10.new HBx
                      obtain ⟨p1, d1, e1, _, k0, k1⟩ := H1.at_ x f hf
                      obtain ⟨p2, d2, e2, _, k2⟩ := own_at (own_new HTW.out HBx) x fw.val (by rw [List.getElem?_map, hfw]; rfl)
                      injection e1 with e1a e1b e1c
                      injection e2 with e2a e2b e2c
                      subst e1a; subst e1c; subst e2a; subst e2c
                      have r1 := Lib.hid (H1.own f (List.mem_of_getElem? hf)).rb
                      have r2 := Lib.hid ((HTR.out fw (List.mem_of_getElem? hfw)).new HBx)
                      rw [hf2.1] at k0
                      simp only [FrV.val] at k1 k2
                      clear e1b e2b hf2 hw2 hf hfw hq
                      have SM : Hid (∀ w', RB w' f.A f.c f.pay → RB w' fw.A fw.c fw.pay → Calls Try.prog 37 #[.slice f.A f.pay.length f.c, .slice fw.A fw.pay.length fw.c] w' fun e w'' => e = .returned (.bool true) ∧ w' = w'') := Lib.hid (fun w' h1 h2 => by have := topsame_calls f.A fw.A f.pay fw.pay _ _ f.c fw.c w' h1 h2 rfl rfl; rw [HS.out] at this; exact this)
                      have hbb : ((x : Int) != (x : Int)) = false := by simp
                      go_wp2
                      go_quiet ((go_at_call 37; exact Calls.quiet_of_same ((SM.out _ (r1.out.drawn _) (r2.out.drawn _)).mono fun _ _ h => ⟨h.1, h.2.symm⟩)))
                      go_wp2
                      go_roundw
                      case rel => exact ⟨x + 1, by omega, by go_num, HBx.trans (Drawn.below ⟨_, rfl⟩ _)⟩
                      case measure => simp [intOf]; omega
                    · obtain rfl : x = (i' + 1) := by omega
                      clear hlt
                      go_wp2
                      go_ret
                      exact ⟨rfl, below_then HTB.out HBx⟩
              · rcases hside2 with ⟨rfl, rfl⟩ | ⟨i', g', rfl, e9, kc'⟩
                · go_wp2
                  go_loopw [24] (fun iv wr => ∃ x : Nat, x ≤ 0 ∧ iv = .int .i64 x ∧ Below w10.heap.size w10 wr) (fun iv _ => 0 - (intOf iv).toNat)
                  case atStart => exact ⟨0, Nat.zero_le _, rfl, Below.refl _ _⟩
                  case round =>
                    obtain ⟨x, hx, rfl, HBx⟩ := hrel
                    by_cases hlt : x < 0
                    · exact absurd hlt (Nat.not_lt_zero _)
                    · obtain rfl : x = 0 := by omega
                      clear hlt
                      go_wp2
                      go_ret
                      exact ⟨rfl, below_then HTB.out HBx⟩
                · injection e9 with e9
                  injection e9 with e9
                  subst e9
                  go_wp2
                  go_loopw [24] (fun iv wr => ∃ x : Nat, x ≤ (i' + 1) ∧ iv = .int .i64 x ∧ Below w10.heap.size w10 wr) (fun iv _ => (i' + 1) - (intOf iv).toNat)
                  case atStart => exact ⟨0, Nat.zero_le _, rfl, Below.refl _ _⟩
                  case round =>
                    obtain ⟨x, hx, rfl, HBx⟩ := hrel
                    by_cases hlt : x < (i' + 1)
                    · obtain ⟨q, hq⟩ : ∃ q, qs[x]? = some q := ⟨_, List.getElem?_eq_getElem (by rw [HQL.out]; omega)⟩
                      obtain ⟨f, hf⟩ : ∃ f, fs[x]? = some f := ⟨_, List.getElem?_eq_getElem (by rw [HFL.out]; exact hlt)⟩
                      obtain ⟨fw, hfw⟩ : ∃ f, ws[x]? = some f := ⟨_, List.getElem?_eq_getElem (by rw [HWL.out]; omega)⟩
                      have hf2 : f.place = x ∧ f.pay = sT q := by
                        have h1 := congrArg (·[x]?) HE10.out
                        have h2 := pcsT_get (qs.take (i' + 1)) x q (by rw [List.getElem?_take, if_pos hlt]; exact hq)
                        simp only [frOf, List.getElem?_map, hf, Option.map_some] at h1
                        rw [h2] at h1
                        have := Option.some.inj h1
                        exact ⟨congrArg Prod.fst this, congrArg Prod.snd this⟩
                      have hw2 : fw.pay = sT q := by
                        have h1 := congrArg (·[x]?) HW.out
                        simp only [List.getElem?_map, hfw, hq, Option.map_some] at h1
                        exact Option.some.inj h1
                      have HS := Lib.hid (show (f.pay == fw.pay) = true by rw [hf2.2, hw2, beq_self_eq_true])
                      have H1 := hf10.new HBx
                      obtain ⟨p1, d1, e1, _, k0, k1⟩ := H1.at_ x f hf
                      obtain ⟨p2, d2, e2, _, k2⟩ := own_at (own_new HTW.out HBx) x fw.val (by rw [List.getElem?_map, hfw]; rfl)
                      injection e1 with e1a e1b e1c
                      injection e2 with e2a e2b e2c
                      subst e1a; subst e1c; subst e2a; subst e2c
                      have r1 := Lib.hid (H1.own f (List.mem_of_getElem? hf)).rb
                      have r2 := Lib.hid ((HTR.out fw (List.mem_of_getElem? hfw)).new HBx)
                      rw [hf2.1] at k0
                      simp only [FrV.val] at k1 k2
                      clear e1b e2b hf2 hw2 hf hfw hq
                      have SM : Hid (∀ w', RB w' f.A f.c f.pay → RB w' fw.A fw.c fw.pay → Calls Try.prog 37 #[.slice f.A f.pay.length f.c, .slice fw.A fw.pay.length fw.c] w' fun e w'' => e = .returned (.bool true) ∧ w' = w'') := Lib.hid (fun w' h1 h2 => by have := topsame_calls f.A fw.A f.pay fw.pay _ _ f.c fw.c w' h1 h2 rfl rfl; rw [HS.out] at this; exact this)
                      have hbb : ((x : Int) != (x : Int)) = false := by simp
                      go_wp2
                      go_quiet ((go_at_call 37; exact Calls.quiet_of_same ((SM.out _ (r1.out.drawn _) (r2.out.drawn _)).mono fun _ _ h => ⟨h.1, h.2.symm⟩)))
                      go_wp2
                      go_roundw
                      case rel => exact ⟨x + 1, by omega, by go_num, HBx.trans (Drawn.below ⟨_, rfl⟩ _)⟩
                      case measure => simp [intOf]; omega
                    · obtain rfl : x = (i' + 1) := by omega
                      clear hlt
                      go_wp2
                      go_ret
                      exact ⟨rfl, below_then HTB.out HBx⟩
end Go.Proofs.Ytdpmalegpjimfab
