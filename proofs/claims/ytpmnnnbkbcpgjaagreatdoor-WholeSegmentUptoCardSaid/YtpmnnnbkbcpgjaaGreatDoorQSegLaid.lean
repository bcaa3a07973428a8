import Derived.Test.YtpmnnnbkbcpgjaaGreatDoorQSegLay
import Derived.Test.YtpmnnnbkbcpgjaaGreatDoorQSegDocHead
import Derived.Test.YtpmnnnbkbcpgjaaGreatDoorQBi
/- The walk of notarylaw08.laid. -/
namespace Go.Proofs.YtpmnnnbkbcpgjaaGreatDoor
open Go.RowKit
open FrameMath (laid)

def consOf (bs : List BvV) : List (List En) := bs.map fun b => ensOf b.es
/-- the places, as they read -/
def Plc (w : World) (A : Option Addr) (f : Nat) (ls : List (List En)) : Prop := ∀ i, i < ls.length + 1 → ∃ a, A = some a ∧ w.cell? (a.add i) = some (.int .i64 (endN f ls i))
theorem Plc.new {w w' : World} {A : Option Addr} {f : Nat} {ls : List (List En)} (h : Plc w A f ls) (hb : Below w.heap.size w w') : Plc w' A f ls := fun i hi => by
  obtain ⟨a, ha, h0⟩ := h i hi
  exact ⟨a, ha, (hb.cell (World.block_lt_of_cell? w _ h0)).trans h0⟩
/-- what laid answers where nothing is refused -/
structure LaidOk (w' : World) (h : HdV) (ls : List (List En)) (A1 : Option Addr) (c1 : Nat) (A2 A3 : Option Addr) : Prop where
  ok : HdOk h
  bs : okBs h.f ls
  rb : RB w' A1 c1 (headL h ++ frB h.f ls)
  all : ∃ bs, Bats w' A2 bs ∧ bs.map BvV.fst = ixB h.f ls
  at_ : Plc w' A3 h.f ls
theorem LaidOk.new {w w' : World} {h : HdV} {ls : List (List En)} {A1 : Option Addr} {c1 : Nat} {A2 A3 : Option Addr} (k : LaidOk w h ls A1 c1 A2 A3) (hb : Below w.heap.size w w') : LaidOk w' h ls A1 c1 A2 A3 :=
  ⟨k.ok, k.bs, k.rb.new hb, let ⟨bs, h1, h2⟩ := k.all; ⟨bs, h1.new hb, h2⟩, k.at_.new hb⟩
theorem LS.plc {w0 wr : World} {P : List UInt8} {vp va : Value} {A : Option Addr} {n c f : Nat} {ls : List (List En)} {bs : List BtV} (h : LS w0 wr P vp va (.slice A n c) n (endsL f ls n) bs) (hn : n = ls.length + 1) : Plc wr A f ls := fun i hi => by
  obtain ⟨g, c', hv, _, hc⟩ := own_at h.ends i _ (endsL_get f ls n i (by omega))
  have e : A = some ⟨g, 0, none⟩ := by injection hv
  exact ⟨_, e, by rw [addr_at, Nat.zero_add]; exact hc⟩
theorem BL.formN {w : World} {base n : Nat} {v : Value} {bs : List BtV} (h : BL w base v bs) (hn : bs.length = n) : ∃ A c, v = .slice A n c := by
  obtain ⟨A, c, e⟩ := h.form
  exact ⟨A, c, by rw [← hn]; exact e⟩
theorem segB_ok {f : Nat} {l : List En} {q : List UInt8} (h : segB f l = (q, 0)) : q = laid f (encBL f l) ∧ encBF f l = (encBL f l, 0) := by
  unfold segB at h
  split at h
  · rename_i h0
    obtain ⟨x, e, hx⟩ : ∃ x e, encBF f l = (x, e) := ⟨_, _, rfl⟩
    rw [hx] at h0
    simp only at h0
    subst h0
    have := (encBF_ok _ _ _ hx).1
    rw [this] at hx
    rw [hx] at h
    exact ⟨(Prod.mk.inj h).1.symm, hx⟩
  · rename_i h0
    exact absurd (Prod.mk.inj h).2 h0
theorem results_tmp4 {P : Program} {fn : Func} {a b c d : Tmp} (h : fn.results = #[.tmp a, .tmp b, .tmp c, .tmp d]) (tmps : Array Value) (w : World) :
    (results fn tmps).run P w = .ok (.tuple #[tmps.getD a undef, tmps.getD b undef, tmps.getD c undef, tmps.getD d undef]) w := by
  simp [results, h]
set_option maxHeartbeats 400000 in
set_option maxRecDepth 100000 in
/-- a head that is refused -/
theorem laid_no (k ep fi : Nat) (x : Int) (hx : ¬ (1 ≤ x ∧ x ≤ 32)) (hk : k ≤ 18446744073709551615) (hep : ep ≤ 18446744073709551615) (hfi : fi ≤ 18446744073709551615) (A : Option Addr) (n c : Nat) (w : World) :
    Calls Tryz.prog 28 #[.agg #[.int .u64 k, .int .u64 ep, .int .u64 fi, .int .i64 x], .slice A n c] w fun r w' => r = .returned (.tuple #[.slice none 0 0, .slice none 0 0, .slice none 0 0, .bool false]) ∧ Below w.heap.size w w' := by
  have R0 := Row.fresh w w.heap.size rfl 32 [.int .u64 k, .int .u64 ep, .int .u64 fi, .int .i64 x] #[.int .u64 k, .int .u64 ep, .int .u64 fi, .int .i64 x] rfl
  have x0 := R0.c 0 _ rfl
  have x1 := R0.c 1 _ rfl
  have x2 := R0.c 2 _ rfl
  have x3 := R0.c 3 _ rfl
  have HB := Lib.hid (below_alloc1 (Below.refl w.heap.size w) (Nat.le_refl _) (.cells #[.int .u64 k, .int .u64 ep, .int .u64 fi, .int .i64 x] 32))
  have HE := Lib.hid (show encH k ep fi x = ([], 1) by unfold encH; rw [if_neg hx])
  clear hx R0
  go_enter Tryz.func28, Tryz.ntmps28
  go_wp2_with (go_at_call 17; go_loud (with_reducible refine (encHeadN k ep fi x hk hep hfi [] 1 HE.out 0 rfl _).mono ?_); rintro x1 w1 ⟨A1, c1, rfl, hn1⟩; have B1 := Lib.hid (below_then HB.out hn1.below))
  exact bodyPost_ret (results_tmp4 rfl _ _) rfl ⟨rfl, B1.out⟩
/-- behind the append of a place -/
theorem laid_mid {w wr w3 w5 w6 w7 : World} {o1 o6 : Obj} {P P' : List UInt8} {vp vp' va ve ve' : Value} {j ix nb c3 m' hf' : Nat} {A3 : Option Addr} {ls : List (List En)} {bs : List BtV} {ds : List EnX} {x y : Value}
    (h1 : LS w (wr.alloc o1) P vp va ve (j + 1) (endsL hf' ls (j + 1)) bs) (h6 : LS w w6 P' vp' va ve (j + 1) (endsL hf' ls (j + 1)) bs) (hE : EL w3 (wr.heap.size + 1) (.slice A3 nb c3) nb ds) (hD : Duo w6 w3.heap.size x y)
    (s3 : wr.heap.size + 1 ≤ w3.heap.size) (s5 : w3.heap.size + 1 ≤ w5.heap.size) (s6 : w5.heap.size ≤ w6.heap.size) (hab : ∀ k, vp'.ownBlock = some k → w5.heap.size ≤ k ∧ k < w6.heap.size) (hend : endN hf' ls (j + 1) = m')
    (h36 : Below w3.heap.size w3 w6) (ho : w7.ownsRow w.heap.size 3 1 ve' (j + 1 + 1) (endsL hf' ls (j + 1) ++ [.int .i64 m'])) (hg : (w6.alloc o6).grownBy w7 ve.ownBlock) (hv : ve'.ownBlock = ve.ownBlock ∨ ve'.ownBlock = some (w6.alloc o6).heap.size) :
    LS w w7 P' vp' va ve' (j + 1 + 1) (endsL hf' ls (j + 1 + 1)) bs ∧ BtAt w7 ⟨ix, A3, c3, c3, ds, wr.heap.size + 1, w3.heap.size, false⟩ ∧ Duo w7 w3.heap.size x y ∧ (∀ k, vp'.ownBlock = some k → k < wr.heap.size + 1 ∨ w3.heap.size ≤ k) ∧ (∀ k, ve'.ownBlock = some k → k < wr.heap.size + 1 ∨ w3.heap.size ≤ k) := by
  have hve : ∀ k, ve.ownBlock = some k → k < wr.heap.size + 1 := fun k hk => by
    have := (h1.ends.lt k hk).2
    rw [asz] at this; exact this
  have hlen := hE.len
  subst hlen
  refine ⟨?_, ?_, ?_, fun k hk => .inr ?_, fun k hk => ?_⟩
  · refine (h6.new (Bl.alloc w6 o6)).app_ends ?_ hg hv
    rw [endsL_succ hf' ls (j + 1), hend]; exact ho
  · refine ((BtAt.mkD ix A3 c3 c3 ds (wr.heap.size + 1) w3 hE).new (below_then h36 (Bl.alloc w6 o6))).keep (fun k hk1 hk2 => hg.block k (by rw [asz]; have : k < w3.heap.size := hk2; omega) (fun e => by have := hve k e.symm; have : wr.heap.size + 1 ≤ k := hk1; omega)) hg.size
  · exact (hD.new (Bl.alloc w6 o6)).grownV hg fun k hk => by have := hve k hk; omega
  · have := (hab k hk).1; omega
  · rcases hv with e | e
    · rw [e] at hk; exact .inl (hve k hk)
    · rw [e] at hk; have := Option.some.inj hk; rw [asz] at this; exact .inr (by omega)
set_option maxHeartbeats 1000000 in
set_option maxRecDepth 100000 in
theorem laid_yes (h : HdV) (hH : HdOk h) (A : Option Addr) (bs : List BvV) (n c : Nat) (w : World) (hB : Bats w A bs) (hn : n = bs.length) (hl : n ≤ 1048576) (hs : ∀ b ∈ bs, b.es.length * 56 ≤ 140737488355328 ∧ SmallEs b.es) :
    Calls Tryz.prog 28 #[.agg #[.int .u64 h.n, .int .u64 h.ep, .int .u64 h.f, .int .i64 h.w], .slice A n c] w fun r w' => Below w.heap.size w w' ∧ (r = .returned (.tuple #[.slice none 0 0, .slice none 0 0, .slice none 0 0, .bool false]) ∨
      ∃ A1 c1 A2 c2 A3 c3 m, r = .returned (.tuple #[.slice A1 m c1, .slice A2 n c2, .slice A3 (n + 1) c3, .bool true]) ∧ m = (headL h ++ frB h.f (consOf bs)).length ∧ LaidOk w' h (consOf bs) A1 c1 A2 A3) := by
  have R0 := Row.fresh w w.heap.size rfl 32 [.int .u64 h.n, .int .u64 h.ep, .int .u64 h.f, .int .i64 h.w] #[.int .u64 h.n, .int .u64 h.ep, .int .u64 h.f, .int .i64 h.w] rfl
  have x0 := R0.c 0 _ rfl
  have x1 := R0.c 1 _ rfl
  have x2 := R0.c 2 _ rfl
  have x3 := R0.c 3 _ rfl
  have HR := Lib.hid R0
  have HB := Lib.hid (below_alloc1 (Below.refl w.heap.size w) (Nat.le_refl _) (.cells #[.int .u64 h.n, .int .u64 h.ep, .int .u64 h.f, .int .i64 h.w] 32))
  have hE : encH h.n h.ep h.f h.w = (headL h, 0) := by
    have h1 := hH.w1
    have h2 := hH.w2
    unfold encH
    rw [if_pos ⟨by omega, by omega⟩]
    congr 2
  have HE := Lib.hid hE
  have HH := Lib.hid hH
  have HN := Lib.hid hn
  have hfi := hH.f
  clear hE hn R0
  obtain ⟨hn', hep', hf', hw'⟩ := h
  simp only at x0 x1 x2 x3 hfi
  go_enter Tryz.func28, Tryz.ntmps28
  go_wp2_with (go_at_call 17; go_loud (with_reducible refine (encHeadN hn' hep' hf' hw' HH.out.n HH.out.ep HH.out.f (headL ⟨hn', hep', hf', hw'⟩) 0 HE.out 48 (headL_length _).symm _).mono ?_); rintro r1 w1 ⟨A1, c1, rfl, hn1⟩; have B1 := Lib.hid (below_then HB.out hn1.below); have P1 := Lib.hid hn1.own; have R1 := (HR.out.new hn1.below).new (Bl.alloc w1 (.cells #[.int .i64 48] 3)); have y2 := R1.c 2 _ rfl; clear x0 x1 x2 x3 R1)
  have L1 : Hid (LS w (w1.alloc (.cells #[.int .i64 48] 3)) (headL ⟨hn', hep', hf', hw'⟩) (.slice A1 48 c1) (.slice none 0 0) (.slice (some ⟨w1.heap.size, 0, none⟩) 1 1) 1 [.int .i64 48] []) := by
    have hb := B1.out
    have ho := P1.out.mono HB.out.size
    have hz : ∀ v : Value, apartV v (.slice none 0 0) := fun v => (show apartV (.slice none 0 0) v from .inl rfl).symm
    exact Lib.hid ⟨ho.alloc _, World.ownsRow_lit (base := w.heap.size) (e := 3) (size := 1) w1 #[.int .i64 48] 1 hb.size (by decide) rfl, BL.nil _ _, (apart_fresh8 (u := .slice (some ⟨w1.heap.size, 0, none⟩) 1 1) (w := w1) (fun k hk => Nat.le_of_eq (Option.some.inj (show some w1.heap.size = some k from hk))) (fun k hk => (ho.at_base k hk).2)).symm, hz _, hz _, fun b hb => absurd hb (by simp), fun b hb => absurd hb (by simp), belowA hb _⟩
  clear B1 P1 hn1 HE HR HB y2
  go_loopw [8, 10, 11, 12, 14, 15, 16, 17, 32] (fun vp va ve nx _ _ _ _ iv wr => ∃ (j m ix : Nat) (A8 A10 A11 : Option Addr) (c8 c10 c11 : Nat) (bs' : List BtV), j ≤ n ∧ iv = .int .i64 j ∧ vp = .slice A8 m c8 ∧ va = .slice A10 j c10 ∧ ve = .slice A11 (j + 1) c11 ∧ nx = .int .u64 ix ∧ ix ≤ 18446744073709551615 ∧ Hid (ix = endIx hf' ((consOf bs).take j)) ∧ m = endN hf' (consOf bs) j ∧ Hid (LS w wr (headL ⟨hn', hep', hf', hw'⟩ ++ frB hf' ((consOf bs).take j)) (.slice A8 m c8) (.slice A10 j c10) (.slice A11 (j + 1) c11) (j + 1) (endsL hf' (consOf bs) (j + 1)) bs') ∧ Hid (bs'.map BtV.fst = ixB hf' ((consOf bs).take j)) ∧ Hid (okBs hf' ((consOf bs).take j))) (fun _ _ _ _ _ _ _ _ iv _ => n - (intOf iv).toNat)
  case atStart => exact ⟨0, 48, hf', A1, none, _, c1, 0, _, [], Nat.zero_le _, rfl, rfl, rfl, rfl, rfl, hfi, Lib.hid rfl, rfl, Lib.hid (by simpa [frB, endsL, endN] using L1.out), Lib.hid rfl, Lib.hid trivial⟩
  case round =>
    obtain ⟨j, m, ix, A8, A10, A11, c8, c10, c11, bs', hj, rfl, rfl, rfl, rfl, rfl, hix, HIX, hm, HLS, HFS, HOK⟩ := hrel
    by_cases hlt : j < n
    · have hLS := HLS.out
      obtain ⟨a, b, rfl, hb, hbm, hbe, k0, k1⟩ := (hB.new hLS.below).at_ j (by rw [← HN.out]; exact hlt)
      obtain ⟨hs5, hs6⟩ := hs b hbm
      have hlj : (consOf bs)[j]? = some (ensOf b.es) := by unfold consOf; rw [List.getElem?_map, hb]; rfl
      obtain ⟨bf, bA, bc, bes⟩ := b
      simp only at hbe k0 k1 hs5 hs6 hlj
      obtain ⟨nb, hnb⟩ : ∃ nb, nb = bes.length := ⟨_, rfl⟩
      rw [← hnb, addr_succ] at k1
      rw [← hnb] at hs5
      obtain ⟨q, e, hq⟩ : ∃ q e, segB ix (ensOf bes) = (q, e) := ⟨_, _, rfl⟩
      obtain ⟨mq, hmq⟩ : ∃ mq, mq = q.length := ⟨_, rfl⟩
      have HQ := Lib.hid hq
      have HMQ := Lib.hid hmq
      have HNB := Lib.hid hnb
      have HLJ := Lib.hid hlj
      have hnb6 : nb ≤ 9223372036854775807 := by omega
      have n1 := Bl.alloc wr (.cells #[.int .u64 bf, .slice bA nb bc] 35)
      have HE1 := Lib.hid (hbe.new n1)
      have D1 := Duo.fresh wr wr.heap.size rfl (.int .u64 bf) (.slice bA nb bc) 35
      have L1 := Lib.hid (hLS.new n1)
      have z1 := D1.c1
      have HM := Lib.hid hm
      clear hb hbm hbe hlj hnb hmq hLS n1 D1 hm
      by_cases he0 : e = 0
      · subst he0
        obtain ⟨hqe, hce⟩ := segB_ok hq
        have HQE := Lib.hid hqe
        have HCE := Lib.hid hce
        have hfit := (okBs_ix hce).2.1
        have hqs := (encBF_small _ _ _ hce).2
        have hel : (ensOf bes).length = nb := by rw [HNB.out]; simp [ensOf]
        rw [hel] at hfit
        have hu64 : IntKind.u64.wrap (nb : Int) = (nb : Int) := by rw [IntKind.wrap_u64]; omega
        have hadd : IntKind.u64.wrap ((ix : Int) + (nb : Int)) = ((ix + nb : Nat) : Int) := by rw [IntKind.wrap_u64]; omega
        have hfs := frB_small _ _ HOK.out
        have htl : ((consOf bs).take j).length ≤ j := List.length_take_le _ _
        have hmP : m = (headL ⟨hn', hep', hf', hw'⟩ ++ frB hf' ((consOf bs).take j)).length := by rw [HM.out, List.length_append, headL_length]; rfl
        have hmq2 : mq ≤ 21862 := by rw [HMQ.out, hqe, FrameMath.laid_length]; omega
        have hmb : m ≤ 22923968560 := by
          have : m = 48 + (frB hf' ((consOf bs).take j)).length := HM.out
          have : 21862 * ((consOf bs).take j).length ≤ 21862 * 1048576 := Nat.mul_le_mul_left _ (by omega)
          omega
        obtain ⟨m', hm'⟩ : ∃ m', m' = m + mq := ⟨_, rfl⟩
        have hend : endN hf' (consOf bs) (j + 1) = m' := by
          rw [frB_cons_len hf' (consOf bs) j _ HLJ.out, ← HIX.out, ← HM.out, hm', HMQ.out, hqe, FrameMath.laid_length]
        have hbl : bs'.length = j := by
          have h1 := congrArg List.length HFS.out
          have h2 : ((consOf bs).take j).length = j := by rw [List.length_take]; unfold consOf; rw [List.length_map, ← HN.out]; omega
          rw [List.length_map, ixB_length, h2] at h1
          exact h1
        have HMP := Lib.hid hmP
        have HM' := Lib.hid hm'
        have HEND := Lib.hid hend
        have hmm : m + mq ≤ 281474976710656 := by omega
        have HBL := Lib.hid hbl
        have hj6 : j ≤ 1048576 := by omega
        clear hq hqe hce hfs htl hmP hmb hmq2 hm' hend hel hqs hbl
        go_wp2_with (first
          | (go_at_call 53; go_loud (with_reducible refine (twinEs_calls bA bes nb bc _ HE1.out HNB.out hs5 hs6).mono ?_); rintro r3 w3 ⟨A3, c3, ds, rfl, hl3, hd3, hb3⟩; have n3 := Bl.alloc w3 (.cells #[.int .u64 ix, .slice A3 nb c3] 35); have L3 := Lib.hid ((L1.out.new hb3).new n3); have D3 := Duo.fresh w3 w3.heap.size rfl (.int .u64 ix) (.slice A3 nb c3) 35; have y0 := D3.c0; have y1 := D3.c1; have D3 := Lib.hid D3; have E3 := Lib.hid (hl3.reads.new n3); have hsz3 := hb3.size; have N3 := Lib.hid n3; rw [asz] at hl3 hsz3; have EL3 := Lib.hid hl3; have HD3 := Lib.hid hd3)
          | (go_at_call 20; go_loud (with_reducible refine (segBatch_calls ix _ rfl hix A3 nb c3 ds _ E3.out EL3.out.len hnb6 q 0 (by rw [HD3.out]; exact HQ.out) mq HMQ.out).mono ?_); rintro r5 w5 ⟨A5, c5, rfl, hn5⟩; have L5 := Lib.hid (L3.out.new hn5.below); have D5 := Lib.hid (D3.out.new hn5.below); have Q5 := Lib.hid hn5.own.rb; have N5 := Lib.hid (below_then N3.out hn5.below); have hsz5 := hn5.below.size; rw [asz] at hsz5))
        go_wp2_with (first
          | (go_at_call 30; go_loud (with_reducible refine (joinN A8 A5 _ q _ m mq m' c8 c5 _ L5.out.p.rb Q5.out HMP.out HMQ.out (by rw [← HMP.out, ← HMQ.out]; exact HM'.out) rfl (by rw [← HMP.out, ← HMQ.out]; exact hmm)).mono ?_); rintro r6 w6 ⟨A6, c6, rfl, hn6⟩; have L6 := Lib.hid (L5.out.setP hn6); have D6 := Lib.hid (D5.out.new hn6.below); have hab6 := hn6.own.at_base; have hsz6 := hn6.below.size; have B36 := Lib.hid (below_then N5.out hn6.below))
          | (refine wp_appendG itL rfl (.tmp 51) (.tmp 54) rfl w.heap.size (.slice A11 (j + 1) c11) (j + 1) (endsL hf' (consOf bs) (j + 1)) rfl (L6.out.new (Bl.alloc w6 (.cells #[.int .i64 m'] 3))).ends ⟨w6.heap.size, 0, Option.none⟩ 1 1 [.int .i64 m'] rfl rfl (fun i u hu => cell_one_new w6 _ _ i u hu) (fun u hu => by obtain rfl := List.mem_singleton.1 hu; rfl) (by omega) (by decide) (by rw [asz]; have := L6.out.below.size; omega) fun A7 c7 w7 ho7 hg7 hr7 => ?_; go_loud (have H7 := laid_mid (ix := ix) L1.out L6.out EL3.out D6.out hsz3 hsz5 hsz6 hab6 HEND.out B36.out ho7 hg7 hr7); obtain ⟨L7, BT7, D7, P7, E7⟩ := H7; have y0 := D7.c0; have y1 := D7.c1; have L7 := Lib.hid L7; have BT7 := Lib.hid BT7; have D7 := Lib.hid D7; have P7 := Lib.hid P7; have E7 := Lib.hid E7; clear ho7 hg7 hr7)
          | (refine wp_appendBt2 btt rfl (.tmp 56) (.tmp 58) rfl w.heap.size (.slice A10 j c10) bs' rfl (L7.out.new (Bl.alloc w7 (.cells #[.int .u64 ix, .slice A3 nb c3] 35))).all ⟨ix, A3, c3, c3, ds, wr.heap.size + 1, w3.heap.size, false⟩ ⟨w7.heap.size, 0, Option.none⟩ rfl (pair_at w7 w7.heap.size rfl _ _ _).1 ((pair_at w7 w7.heap.size rfl (.int .u64 ix) (.slice A3 nb c3) 35).2.trans (congrArg (fun n => some (Value.slice A3 n c3)) EL3.out.len)) (BT7.out.new (Bl.alloc w7 _)) (Nat.le_succ_of_le HLS.out.below.size) (fun d hd => Nat.le_succ_of_le (HLS.out.all.at_ d hd).hi) (fun k hk => Nat.lt_succ_of_lt (HLS.out.all.lt k hk).2) (by rw [HBL.out]; omega) (by rw [asz]; have := L7.out.below.size; omega) fun v8 w8 hbl8 hg8 hv8 => ?_; obtain ⟨A9, c9, rfl⟩ := hbl8.formN (n := j + 1) (by rw [List.length_append, HBL.out]; rfl); have L8 := Lib.hid (LS.app_all _ (L7.out.new (Bl.alloc w7 (.cells #[.int .u64 ix, .slice A3 nb c3] 35))) hbl8 hg8 hv8 P7.out E7.out); have D8 := (D7.out.new (Bl.alloc w7 (.cells #[.int .u64 ix, .slice A3 nb c3] 35))).grownV hg8 (fun k hk => by have := (HLS.out.all.lt k hk).2; omega); have y0 := D8.c0; have y1 := D8.c1; clear hbl8 hg8 hv8 D8))
        go_roundw
        case rel =>
          refine ⟨j + 1, m', ix + nb, A6, A9, A7, c6, c9, c7, bs' ++ [⟨ix, A3, c3, c3, ds, wr.heap.size + 1, w3.heap.size, false⟩], by omega, by go_num, rfl, rfl, rfl, rfl, by omega, Lib.hid ?_, HEND.out.symm, Lib.hid ?_, Lib.hid ?_, Lib.hid ?_⟩
          · rw [endIx_succ hf' (consOf bs) j _ HLJ.out, ← HIX.out, HNB.out]; simp [ensOf]
          · rw [frB_succ hf' (consOf bs) j _ HLJ.out, ← HIX.out, ← HQE.out, ← List.append_assoc]; exact L8.out
          · rw [ixB_succ hf' (consOf bs) j _ HLJ.out, ← HIX.out, List.map_append, HFS.out, ← HD3.out]; rfl
          · exact okBs_succ hf' (consOf bs) j _ HLJ.out HOK.out (by rw [← HIX.out]; exact HCE.out)
        case measure => simp [intOf]; omega
      · have hne : ((e : Int) != 0) = true := by rw [bne_iff_ne]; omega
        clear hq
        go_wp2_with (first
          | (go_at_call 53; go_loud (with_reducible refine (twinEs_calls bA bes nb bc _ HE1.out HNB.out hs5 hs6).mono ?_); rintro r3 w3 ⟨A3, c3, ds, rfl, hl3, hd3, hb3⟩; have n3 := Bl.alloc w3 (.cells #[.int .u64 ix, .slice A3 nb c3] 35); have B3 := Lib.hid (below_then (below_then L1.out.below hb3) n3); have D3 := Duo.fresh w3 w3.heap.size rfl (.int .u64 ix) (.slice A3 nb c3) 35; have y0 := D3.c0; have y1 := D3.c1; have E3 := Lib.hid (hl3.reads.new n3); have EL3 := Lib.hid hl3.len; have HD3 := Lib.hid hd3)
          | (go_at_call 20; go_loud (with_reducible refine (segBatch_calls ix _ rfl hix A3 nb c3 ds _ E3.out EL3.out hnb6 q e (by rw [HD3.out]; exact HQ.out) mq HMQ.out).mono ?_); rintro r5 w5 ⟨A5, c5, rfl, hn5⟩; have B5 := Lib.hid (below_then B3.out hn5.below)))
        exact bodyPost_ret (results_tmp4 rfl _ _) rfl ⟨B5.out, .inl rfl⟩
    · obtain rfl : j = n := by omega
      have hcl : (consOf bs).length = j := by unfold consOf; rw [List.length_map, ← HN.out]
      have htk : (consOf bs).take j = consOf bs := List.take_of_length_le (Nat.le_of_eq hcl)
      clear hlt
      have hLS := HLS.out
      have hFS := HFS.out
      have hOK := HOK.out
      rw [htk] at hLS hFS hOK
      have hml : m = (headL ⟨hn', hep', hf', hw'⟩ ++ frB hf' (consOf bs)).length := by rw [hm, List.length_append, headL_length]; unfold endN; rw [htk]
      have hbl : bs'.length = j := by
        have := congrArg List.length hFS
        rw [List.length_map, ixB_length, hcl] at this
        exact this
      have hall : Bats wr A10 (bs'.map BtV.view) := by
        have := hLS.all
        exact this.view
      have FIN := Lib.hid (show LaidOk wr ⟨hn', hep', hf', hw'⟩ (consOf bs) A8 c8 A10 A11 from ⟨HH.out, hOK, hLS.p.rb, ⟨_, hall, by rw [view_fst]; exact hFS⟩, hLS.plc (by rw [hcl])⟩)
      have HBE := Lib.hid hLS.below
      have HML := Lib.hid hml
      clear hLS hFS hOK hml hall hbl hm htk hcl L1
      go_wp2
      exact bodyPost_ret (results_tmp4 rfl _ _) rfl ⟨HBE.out, .inr ⟨_, _, _, _, _, _, _, rfl, HML.out, FIN.out⟩⟩
end Go.Proofs.YtpmnnnbkbcpgjaaGreatDoor
