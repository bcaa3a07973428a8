import Derived.Test.YtpmnnnbkbcpgjaaGreatDoorQSegBegins
import Derived.Test.YtpmnnnbkbcpgjaaGreatDoorQSegAwake
/- The walk of notarylaw08.SegmentThere. -/
namespace Go.Proofs.YtpmnnnbkbcpgjaaGreatDoor
open Go.RowKit
attribute [local go_sem ↓] Go.wp_at_zero Go.wp_at_succ

theorem consOf_length (bs : List BvV) : (consOf bs).length = bs.length := by unfold consOf; rw [List.length_map]
theorem endN_all (f : Nat) (ls : List (List En)) (n : Nat) (hn : n = ls.length) : endN f ls n = 48 + (frB f ls).length := by
  subst hn
  unfold endN
  rw [List.take_length]
theorem laidL_length (h : HdV) (ls : List (List En)) : (headL h ++ frB h.f ls).length = 48 + (frB h.f ls).length := by rw [List.length_append, headL_length]
theorem ixB_lens : ∀ (ls : List (List En)), ∀ f, okBs f ls → ∀ x ∈ ixB f ls, x.2.length ≤ 64
  | [], _, _, x, hx => absurd hx (by simp [ixB])
  | l :: ls, f, ho, x, hx => by
    rcases List.mem_cons.1 hx with rfl | hx
    · exact (encBF_ok _ _ _ ho.1).2.2.2.1
    · exact ixB_lens ls _ ho.2 x hx
theorem lens_of {es : List BvV} {L : List (Nat × List En)} (he : es.map BvV.fst = L) (hl : ∀ x ∈ L, x.2.length ≤ 64) : ∀ b ∈ es, b.es.length ≤ 9223372036854775807 := fun b hb => by
  have h1 := hl b.fst (by rw [← he]; exact List.mem_map.2 ⟨b, hb, rfl⟩)
  have : (ensOf b.es).length = b.es.length := by simp [ensOf]
  have h1 : (ensOf b.es).length ≤ 64 := h1
  omega
set_option maxHeartbeats 400000 in
set_option maxRecDepth 100000 in
theorem segmentThere_no (k ep fi : Nat) (x : Int) (hx : ¬ (1 ≤ x ∧ x ≤ 32)) (hk : k ≤ 18446744073709551615) (hep : ep ≤ 18446744073709551615) (hfi : fi ≤ 18446744073709551615) (A : Option Addr) (n c : Nat) (B : Value) (w : World) (hL : Laid8 w) :
    Calls Tryz.prog 6 #[.agg #[.int .u64 k, .int .u64 ep, .int .u64 fi, .int .i64 x], .slice A n c, B] w fun r w' => r = .returned (.bool true) ∧ Below w.heap.size w w' := by
  have R0 := Row.fresh w w.heap.size rfl 32 [.int .u64 k, .int .u64 ep, .int .u64 fi, .int .i64 x] #[.int .u64 k, .int .u64 ep, .int .u64 fi, .int .i64 x] rfl
  have HR := Lib.hid R0
  have HB := Lib.hid (below_alloc1 (Below.refl w.heap.size w) (Nat.le_refl _) (.cells #[.int .u64 k, .int .u64 ep, .int .u64 fi, .int .i64 x] 32))
  have HL := Lib.hid (hL.below HB.out)
  have HX := Lib.hid hx
  clear hx R0 hL
  go_enter Tryz.func6, Tryz.ntmps6
  go_wp2_with (first
    | (go_at_call 12; go_loud (with_reducible refine (awake8_calls _ HL.out).mono ?_); rintro x1 w1 ⟨rfl, hb1⟩; have B1 := Lib.hid (below_then HB.out hb1); have R1 := HR.out.new hb1; have x0 := R1.c 0 _ rfl; have x1 := R1.c 1 _ rfl; have x2 := R1.c 2 _ rfl; have x3 := R1.c 3 _ rfl; clear R1)
    | (go_at_call 28; go_loud (with_reducible refine (laid_no k ep fi x HX.out hk hep hfi A n c _).mono ?_); rintro x2 w2 ⟨rfl, hb2⟩; have B2 := Lib.hid (below_then B1.out hb2)))
  go_ret
  exact ⟨rfl, B2.out⟩
set_option maxHeartbeats 1000000 in
set_option maxRecDepth 100000 in
theorem segmentThere_yes (h : HdV) (hH : HdOk h) (A : Option Addr) (bs : List BvV) (n c : Nat) (w : World) (hL : Laid8 w) (hB : Bats w A bs) (hn : n = bs.length) (hl : n ≤ 1048576) (hs : ∀ b ∈ bs, b.es.length * 56 ≤ 140737488355328 ∧ SmallEs b.es) (AT : Option Addr) (T : List UInt8) (tl cT : Nat) (hT : RB w AT cT T) (htl : tl = T.length) (ht6 : tl ≤ 1048576) :
    Calls Tryz.prog 6 #[.agg #[.int .u64 h.n, .int .u64 h.ep, .int .u64 h.f, .int .i64 h.w], .slice A n c, .slice AT tl cT] w fun r w' => r = .returned (.bool true) ∧ Below w.heap.size w w' := by
  have R0 := Row.fresh w w.heap.size rfl 32 [.int .u64 h.n, .int .u64 h.ep, .int .u64 h.f, .int .i64 h.w] #[.int .u64 h.n, .int .u64 h.ep, .int .u64 h.f, .int .i64 h.w] rfl
  have HR := Lib.hid R0
  have HB := Lib.hid (below_alloc1 (Below.refl w.heap.size w) (Nat.le_refl _) (.cells #[.int .u64 h.n, .int .u64 h.ep, .int .u64 h.f, .int .i64 h.w] 32))
  have HL := Lib.hid (hL.below HB.out)
  have HH := Lib.hid hH
  have HBT := Lib.hid hB
  have HN := Lib.hid hn
  have HS := Lib.hid hs
  have HT := Lib.hid hT
  have HTL := Lib.hid htl
  have hfs := frB_small (consOf bs) h.f
  clear R0 hL hH hB hn hs hT htl
  go_enter Tryz.func6, Tryz.ntmps6
  go_wp2_with (first
    | (go_at_call 12; go_loud (with_reducible refine (awake8_calls _ HL.out).mono ?_); rintro x1 w1 ⟨rfl, hb1⟩; have B1 := Lib.hid (below_then HB.out hb1); have R1 := HR.out.new hb1; have x0 := R1.c 0 _ rfl; have x1 := R1.c 1 _ rfl; have x2 := R1.c 2 _ rfl; have x3 := R1.c 3 _ rfl; have R1 := Lib.hid R1))
  go_at_call 28
  with_reducible refine (laid_yes h HH.out A bs n c _ (HBT.out.new B1.out) HN.out hl HS.out).mono ?_
  rintro x2 w2 ⟨hb2, rfl | ⟨A1, c1, A2, c2, A3, c3, m, rfl, hm, hok⟩⟩
  · have B2 := Lib.hid (below_then B1.out hb2)
    go_wp2
    go_ret
    exact ⟨rfl, B2.out⟩
  · have B2 := Lib.hid (below_then B1.out hb2)
    have R2 := R1.out.new hb2
    have x0 := R2.c 0 _ rfl
    have x1 := R2.c 1 _ rfl
    have x2 := R2.c 2 _ rfl
    have x3 := R2.c 3 _ rfl
    have R2 := Lib.hid R2
    have hcl : n = (consOf bs).length := by rw [consOf_length]; exact HN.out
    have hm2 := hm
    rw [laidL_length] at hm2
    have hm6 : m ≤ 22923968560 := by
      have := hfs hok.bs
      have : 21862 * (consOf bs).length ≤ 21862 * 1048576 := Nat.mul_le_mul_left _ (by omega)
      omega
    have hlen := ixB_lens (consOf bs) _ hok.bs
    obtain ⟨ds, hds, hdf⟩ := hok.all
    obtain ⟨a3, hA3, hc3⟩ := hok.at_ n (by omega)
    subst hA3
    rw [endN_all h.f (consOf bs) n hcl, ← hm2] at hc3
    have HOK := Lib.hid hok
    have HRD := Lib.hid (readF_all h hok.ok (consOf bs) hok.bs)
    obtain ⟨bs2, u2, hr2, hu1, hu2⟩ := readF_more h hok.ok (consOf bs) T hok.bs
    rw [← hm2] at hu1 hu2
    rw [← HTL.out] at hu2
    obtain ⟨PL, hPL⟩ : ∃ PL, PL = headL h ++ frB h.f (consOf bs) := ⟨_, rfl⟩
    have hrd := HRD.out
    have hrb := hok.rb
    rw [← hPL] at hm hrd hrb
    rw [show headL h ++ (frB h.f (consOf bs) ++ T) = PL ++ T by rw [hPL, List.append_assoc]] at hr2
    rw [← hm2] at hrd
    obtain ⟨L, hLx⟩ : ∃ L, L = ixB h.f (consOf bs) := ⟨_, rfl⟩
    rw [← hLx] at hrd hr2 hdf hlen
    have hLn : n = L.length := by rw [hLx, ixB_length]; exact hcl
    have HD1 : Hid (∀ (A : Option Addr) (c : Nat) (w : World), RB w A c PL → Calls Tryz.prog 24 #[.slice A m c] w fun r w' => ∃ A' c' es, r = .returned (.tuple #[.agg #[.int .u64 h.n, .int .u64 h.ep, .int .u64 h.f, .int .i64 h.w, .slice A' n c', .int .i64 m], .int .i64 0]) ∧ Bats w' A' es ∧ es.map BvV.fst = L ∧ Below w.heap.size w w') := Lib.hid fun A c w hp => by
      have := segRead8 PL _ hrd (by omega) n hLn A c w hp
      rw [← hm] at this
      exact this
    obtain ⟨mt, hmt⟩ : ∃ mt, mt = m + tl := ⟨_, rfl⟩
    obtain ⟨n2, hn2⟩ : ∃ n2, n2 = (L ++ bs2).length := ⟨_, rfl⟩
    have htl := HTL.out
    have HD2 : Hid (∀ (A : Option Addr) (c : Nat) (w : World), RB w A c (PL ++ T) → Calls Tryz.prog 24 #[.slice A mt c] w fun r w' => ∃ A' c' es, r = .returned (.tuple #[.agg #[.int .u64 h.n, .int .u64 h.ep, .int .u64 h.f, .int .i64 h.w, .slice A' n2 c', .int .i64 u2], .int .i64 0]) ∧ BL w' (w.heap.size + 1) (.slice A' n2 c') es ∧ es.map BtV.fst = L ++ bs2 ∧ (∀ b ∈ es, b.s = true) ∧ Below w.heap.size w w') := Lib.hid fun A c w hp => by
      have := segReadB8 (PL ++ T) _ hr2 (by rw [List.length_append]; omega) n2 hn2 A c w hp
      rw [List.length_append, ← hm, ← htl, ← hmt] at this
      exact this
    have hnn2 : n ≤ n2 := by rw [hn2, List.length_append, ← hLn]; omega
    have hq1 : ¬ n2 < n := by omega
    have hq2 : ¬ u2 < m := by omega
    have hq3 : ¬ ((m : Int) + (tl : Int) < (u2 : Int)) := by omega
    have hq4 : ¬ (m + tl < u2) := by omega
    have hcnt : n2 ≤ mt := by
      have := readF_count (PL ++ T)
      have h3 : (PL ++ T).length = mt := by rw [List.length_append, ← hm, ← htl, hmt]
      rw [hr2, h3] at this
      rw [hn2]; exact this
    have hE := fun w => run_equalHS w h.n h.ep h.f h.w
    have HM := Lib.hid hm
    have HR2 := Lib.hid hr2
    have HNN2 := Lib.hid hn2
    have HMT := Lib.hid hmt
    have HDS := Lib.hid hds
    have HDF := Lib.hid hdf
    have HRB := Lib.hid hrb
    have HLN := Lib.hid hLn
    have HLEN := Lib.hid hlen
    have HC3 := Lib.hid hc3
    have hm48 : m ≤ 140737488355328 := by omega
    have hmt6 : m + tl ≤ 281474976710656 := by omega
    have hu3 : (u2 : Int) ≤ (m : Int) + (tl : Int) := by omega
    have hdsn : n = ds.length := by have := congrArg List.length HDF.out; rw [List.length_map, ← HLN.out] at this; exact this.symm
    have HDN := Lib.hid hdsn
    clear hm hPL hm2 hrd hrb hr2 hLx hLn hmt hn2 htl hds hdf hlen hcl hok hfs hc3 hdsn
    go_wp2_with (first
      | (go_at_call 25; go_loud (with_reducible refine (twinR A1 PL _ c1 _ HRB.out HM.out (by rw [← HM.out]; exact hm48)).mono ?_); rintro r3 w3 ⟨A3', c3', rfl, hn3⟩; have B3 := Lib.hid (below_then B2.out hn3.below); have N3 := Lib.hid hn3.below; have P3 := Lib.hid hn3.own.rb; have tk3 := trivial)
      | (go_at_call 24; have tk := tk3; clear tk tk3; go_loud (with_reducible refine (HD1.out _ _ _ P3.out).mono ?_); rintro r4 w4 ⟨A4, c4, es4, rfl, hv4, he4, hb4⟩; have n4 := Bl.alloc w4 (.cells #[.int .u64 h.n, .int .u64 h.ep, .int .u64 h.f, .int .i64 h.w, .slice A4 n c4, .int .i64 m] 51); have N4 := Lib.hid (below_then (below_then N3.out hb4) n4); have V4 := Lib.hid (hv4.new n4); have E4 := Lib.hid he4; have R4 := R2.out.new N4.out; have x0 := R4.c 0 _ rfl; have x1 := R4.c 1 _ rfl; have x2 := R4.c 2 _ rfl; have x3 := R4.c 3 _ rfl; have G4 := Lib.hid (Row.fresh w4 w4.heap.size rfl 51 [.int .u64 h.n, .int .u64 h.ep, .int .u64 h.f, .int .i64 h.w, .slice A4 n c4, .int .i64 m] #[.int .u64 h.n, .int .u64 h.ep, .int .u64 h.f, .int .i64 h.w, .slice A4 n c4, .int .i64 m] rfl); have C4 := Lib.hid ((N4.out.cell (World.block_lt_of_cell? _ _ HC3.out)).trans HC3.out))
      | (go_at_call 29; go_loud (with_reducible refine (begins_calls h.n h.ep h.f h.w m n n (n + 1) A4 A2 (some a3) c4 c2 c3 es4 ds _ V4.out (HDS.out.new N4.out) (by have := congrArg List.length E4.out; rw [List.length_map, ← HLN.out] at this; exact this.symm) (by rw [E4.out, HDF.out, HLN.out, List.take_length]) (Nat.le_refl _) HDN.out (by omega) (lens_of E4.out HLEN.out) a3 rfl C4.out (Nat.lt_succ_self _)).mono ?_); rintro r5 w5 ⟨rfl, hb5⟩; have N5 := Lib.hid (below_then N4.out hb5); have G5 := Lib.hid (G4.out.new hb5))
      | (go_at_call 30; go_loud (with_reducible refine (joinN A1 AT PL T _ m tl mt c1 cT _ (HRB.out.new N5.out) (HT.out.new (below_then B2.out N5.out)) HM.out HTL.out (by rw [← HM.out, ← HTL.out]; exact HMT.out) rfl (by rw [← HM.out, ← HTL.out]; exact hmt6)).mono ?_); rintro r6 w6 ⟨A6, c6, rfl, hn6⟩; have N6 := Lib.hid (below_then N5.out hn6.below); have G6 := Lib.hid (G5.out.new hn6.below); have P6 := Lib.hid hn6.own.rb; have tk6 := trivial)
      | (go_at_call 24; have tk := tk6; clear tk tk6; go_loud (with_reducible refine (HD2.out _ _ _ P6.out).mono ?_); rintro r7 w7 ⟨A7, c7, es7, rfl, hv7, he7, -, hb7⟩; have N7 := Lib.hid (below_then N6.out hb7); have ne1 : w.heap.size ≠ w4.heap.size := Nat.ne_of_lt (Nat.lt_of_lt_of_le R2.out.lt (Nat.le_trans hn3.below.size hb4.size)); have ne2 : w4.heap.size ≠ w.heap.size := Ne.symm ne1; have G7 := G6.out.new hb7; have V7 := Lib.hid hv7; have E7 := Lib.hid he7; have R7 := R2.out.new N7.out; have x0 := R7.c 0 _ rfl; have x1 := R7.c 1 _ rfl; have x2 := R7.c 2 _ rfl; have x3 := R7.c 3 _ rfl; have R7 := Lib.hid R7; have g0 := G7.c 0 _ rfl; have g1 := G7.c 1 _ rfl; have g2 := G7.c 2 _ rfl; have g3 := G7.c 3 _ rfl; have g4 := G7.c 4 _ rfl; have g5 := G7.c 5 _ rfl; have f0 := G7.fz 0; have f1 := G7.fz 1; have f2 := G7.fz 2; have f3 := G7.fz 3; have f4 := G7.fz 4; have f5 := G7.fz 5; have G7 := Lib.hid G7))
    obtain ⟨w8, h8⟩ : ∃ x, x = put6 w7 w4.heap.size (.int .u64 h.n) (.int .u64 h.ep) (.int .u64 h.f) (.int .i64 h.w) (.slice A7 n2 c7) (.int .i64 u2) := ⟨_, rfl⟩
    have hle : w2.heap.size ≤ w4.heap.size := Nat.le_trans hn3.below.size hb4.size
    have hz6 : w4.heap.size + 1 ≤ w6.heap.size := by
      have h1 := hb5.size
      have h2 := hn6.below.size
      rw [asz] at h1
      exact Nat.le_trans h1 h2
    have G8 : Row w8 w4.heap.size 51 [.int .u64 h.n, .int .u64 h.ep, .int .u64 h.f, .int .i64 h.w, .slice A7 n2 c7, .int .i64 u2] := by rw [h8]; exact G7.out.put6 _ _ _ _ _ _
    have N8 : Below w2.heap.size w2 w8 := by rw [h8]; exact below_put6 N7.out hle _ _ _ _ _ _
    have V8 : Bats w8 A7 (es7.map BtV.view) := by
      have h1 : BL w8 (w6.heap.size + 1) (.slice A7 n2 c7) es7 := by
        rw [h8]
        exact V7.out.keep (fun k h1 _ => (put6_keep _ _ _ _ _ _ _ _).block k (by assumption) (fun e => by have := Option.some.inj e; omega)) (put6_keep _ _ _ _ _ _ _ _).size
      exact h1.view
    have E8 : (es7.map BtV.view).map BvV.fst = L ++ bs2 := by rw [view_fst]; exact E7.out
    have D8 := HDS.out.new N8
    have B8 := below_then B2.out N8
    change Code.wp _ _ _ _ (put6 w7 w4.heap.size (.int .u64 h.n) (.int .u64 h.ep) (.int .u64 h.f) (.int .i64 h.w) (.slice A7 n2 c7) (.int .i64 u2))
    rw [← h8]
    have hn2l : n2 = (es7.map BtV.view).length := by rw [List.length_map]; have := congrArg List.length E7.out; rw [List.length_map] at this; rw [this]; exact HNN2.out
    have HN2 := Lib.hid hn2l
    have HLE : Hid (∀ b ∈ es7.map BtV.view, b.es.length ≤ 9223372036854775807) := Lib.hid (readF_lens (PL ++ T) _ (by rw [HR2.out]; exact E8))
    have G8 := Lib.hid G8
    have N8 := Lib.hid N8
    have V8 := Lib.hid V8
    have E8 := Lib.hid E8
    have D8 := Lib.hid D8
    have B8 := Lib.hid B8
    clear hq1 hq2 hq3 hq4 h8 hle hz6 hn2l hE x0 x1 x2 x3 g0 g1 g2 g3 g4 g5 f0 f1 f2 f3 f4 f5 ne1 ne2 hv7 V7 G7 R7 N7 E7 hu1 hu2 hu3 hmt6 hm48
    go_loopw [13] (fun iv wr => ∃ j : Nat, j ≤ n ∧ iv = .int .i64 j ∧ Below w8.heap.size w8 wr) (fun iv _ => n - (intOf iv).toNat)
    case atStart => exact ⟨0, Nat.zero_le _, rfl, Below.refl _ _⟩
    case round =>
      obtain ⟨j, hj, rfl, HBB⟩ := hrel
      have R2 := G8.out.new HBB
      have x4 := R2.c 4 _ rfl
      by_cases hlt : j < n
      · obtain ⟨a, b, rfl, hb, hbm, hbe, k0, k1⟩ := (V8.out.new HBB).at_ j (by rw [← HN2.out]; omega)
        obtain ⟨a', d, rfl, hd, hdm, hde, l0, l1⟩ := (D8.out.new HBB).at_ j (by rw [← HDN.out]; exact hlt)
        have hbd : b.fst = d.fst := by
          have h1 : ((es7.map BtV.view).map BvV.fst)[j]? = some b.fst := by rw [List.getElem?_map, hb]; rfl
          have h2 : (ds.map BvV.fst)[j]? = some d.fst := by rw [List.getElem?_map, hd]; rfl
          rw [E8.out, List.getElem?_append_left (by rw [← HLN.out]; exact hlt)] at h1
          rw [HDF.out, h1] at h2; exact Option.some.inj h2
        have hlen : b.es.length ≤ 9223372036854775807 := HLE.out b hbm
        obtain ⟨bf, bA, bc, bes⟩ := b
        obtain ⟨df, dA, dc, des⟩ := d
        obtain ⟨e1, e2⟩ := Prod.mk.inj hbd
        simp only at e1
        subst e1
        have e3 : des.length = bes.length := by have := congrArg List.length e2; simpa [ensOf] using this.symm
        simp only [e3] at l1
        clear hb hd hbm hdm hbd
        simp only at k0 k1 l0 l1 hbe hde hlen
        have e2 := Lib.hid e2
        have e3 := Lib.hid e3
        have hbe := Lib.hid (hbe.new (Bl.drew _))
        have hde := Lib.hid (hde.new (Bl.drew _))
        have R2 := Lib.hid (R2.new (Bl.drew _))
        have hjn2 : j < n2 := by omega
        have k1 : wr.cell? ⟨(a.add (j * 2)).block, (a.add (j * 2)).off + 1, none⟩ = some (.slice bA bes.length bc) := by rw [← addr_succ]; exact k1
        have l1 : wr.cell? ⟨(a'.add (j * 2)).block, (a'.add (j * 2)).off + 1, none⟩ = some (.slice dA bes.length dc) := by rw [← addr_succ]; exact l1
        go_wp2
        go_region_held3 (fun w' => w'.cell? ⟨w4.heap.size, 4, none⟩ = some (.slice (some a) n2 c7) ∧ w'.cell? (a.add (j * 2)) = some (.int .u64 bf) ∧ w'.cell? ⟨(a.add (j * 2)).block, (a.add (j * 2)).off + 1, none⟩ = some (.slice bA bes.length bc) ∧ w'.cell? (a'.add (j * 2)) = some (.int .u64 bf) ∧ w'.cell? ⟨(a'.add (j * 2)).block, (a'.add (j * 2)).off + 1, none⟩ = some (.slice dA bes.length dc)) (go_keep) (first
          | (go_at_call 31; go_loud (with_reducible refine (sameB_calls bf bA dA bes des _ _ bc dc rfl rfl _ hbe.out hde.out e2.out hlen).mono ?_); rintro r5 w5 ⟨rfl, hb5⟩; have R5 := R2.out.new hb5; have z4 := R5.c 4 _ rfl; have z0 := (hb5.cell (World.block_lt_of_cell? _ _ k0)).trans k0; have z1 := (hb5.cell (World.block_lt_of_cell? _ _ k1)).trans k1; have v0 := (hb5.cell (World.block_lt_of_cell? _ _ l0)).trans l0; have v1 := (hb5.cell (World.block_lt_of_cell? _ _ l1)).trans l1))
        go_wp2
        go_roundw
        case rel => exact ⟨j + 1, by omega, by go_num, below_then HBB.drew hb5⟩
        case measure => simp [intOf]; omega
      · obtain rfl : j = n := by omega
        clear hlt
        go_wp2
        go_ret
        exact ⟨rfl, below_then B8.out HBB⟩
theorem segmentThere_calls (N E F X : Int) (hN : 0 ≤ N ∧ N ≤ 18446744073709551615) (hE : 0 ≤ E ∧ E ≤ 18446744073709551615) (hF : 0 ≤ F ∧ F ≤ 18446744073709551615) (A : Option Addr) (bs : List BvV) (n c : Nat) (w : World) (hL : Laid8 w) (hB : Bats w A bs) (hn : n = bs.length) (hl : n ≤ 1048576) (hs : ∀ b ∈ bs, b.es.length * 56 ≤ 140737488355328 ∧ SmallEs b.es) (AT : Option Addr) (T : List UInt8) (tl cT : Nat) (hT : RB w AT cT T) (htl : tl = T.length) (ht6 : tl ≤ 1048576) :
    Calls Tryz.prog 6 #[.agg #[.int .u64 N, .int .u64 E, .int .u64 F, .int .i64 X], .slice A n c, .slice AT tl cT] w fun r w' => r = .returned (.bool true) ∧ Below w.heap.size w w' := by
  obtain ⟨k, rfl⟩ := Int.eq_ofNat_of_zero_le hN.1
  obtain ⟨ep, rfl⟩ := Int.eq_ofNat_of_zero_le hE.1
  obtain ⟨fi, rfl⟩ := Int.eq_ofNat_of_zero_le hF.1
  by_cases hx : 1 ≤ X ∧ X ≤ 32
  · obtain ⟨x, rfl⟩ := Int.eq_ofNat_of_zero_le (show 0 ≤ X by omega)
    exact segmentThere_yes ⟨k, ep, fi, x⟩ ⟨by show k ≤ 18446744073709551615; omega, by show ep ≤ 18446744073709551615; omega, by show fi ≤ 18446744073709551615; omega, by show 1 ≤ x; omega, by show x ≤ 32; omega⟩ A bs n c w hL hB hn hl hs AT T tl cT hT htl ht6
  · exact segmentThere_no k ep fi X hx (by omega) (by omega) (by omega) A n c _ w hL
end Go.Proofs.YtpmnnnbkbcpgjaaGreatDoor
