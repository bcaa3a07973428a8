import Derived.Test.YtpmnnnbkbcpgjaaGreatDoorQSegmentTorn
import Derived.Test.YtpmnnnbkbcpgjaaGreatDoorQBi
/- The walk of notarylaw08.SegmentGap. -/
namespace Go.Proofs.YtpmnnnbkbcpgjaaGreatDoor
open Go.RowKit
open FrameMath (laid)
attribute [local go_sem ↓] Go.wp_at_zero Go.wp_at_succ

theorem smallEs_of {es : List EnX} (h : ∀ x ∈ ensOf es, chkF x = 0) : SmallEs es := fun x hx => by
  have := chk_small x.1 (h x.1 (List.mem_map_of_mem hx))
  omega
theorem take_endN (h : HdV) (ls : List (List En)) (k : Nat) : (headL h ++ frB h.f ls).take (endN h.f ls k) = headL h ++ frB h.f (ls.take k) := by
  have e0 : ls = ls.take k ++ ls.drop k := (List.take_append_drop k ls).symm
  have e1 : headL h ++ frB h.f ls = (headL h ++ frB h.f (ls.take k)) ++ frB (endIx h.f (ls.take k)) (ls.drop k) := by
    conv => lhs; rw [e0, frB_append]
    rw [List.append_assoc]
  have e2 : (headL h ++ frB h.f (ls.take k)).length = endN h.f ls k := by rw [List.length_append, headL_length]; rfl
  rw [e1, ← e2, List.take_left]
theorem okBs_take (f : Nat) (ls : List (List En)) (k : Nat) (ho : okBs f ls) : okBs f (ls.take k) := by
  rw [← List.take_append_drop k ls, okBs_append] at ho
  exact ho.1
theorem okBs_at (f : Nat) (ls : List (List En)) (k : Nat) (l : List En) (h : ls[k]? = some l) (ho : okBs f ls) : encBF (endIx f (ls.take k)) l = (encBL (endIx f (ls.take k)) l, 0) := by
  obtain ⟨hk, rfl⟩ := List.getElem?_eq_some_iff.1 h
  rw [← List.take_append_drop k ls, okBs_append, List.drop_eq_getElem_cons hk] at ho
  exact ho.2.1
/-- where the number of the wrong batch is another one -/
theorem gap_read (h : HdV) (hk : HdOk h) (ls : List (List En)) (ho : okBs h.f ls) (k : Nat) (ix : Nat) (l : List En) (hix : ix ≠ endIx h.f (ls.take k)) (q : List UInt8) (hq : segB ix l = (q, 0)) :
    readF ((headL h ++ frB h.f ls).take (endN h.f ls k) ++ (q ++ (headL h ++ frB h.f ls).drop (endN h.f ls k))) = ⟨h, ixB h.f (ls.take k), endN h.f ls k, 0⟩ := by
  obtain ⟨h2, h1⟩ := segB_ok hq
  rw [take_endN, h2]
  exact readF_gap h hk (ls.take k) (okBs_take _ _ _ ho) ix l hix h1 _
set_option maxHeartbeats 400000 in
set_option maxRecDepth 100000 in
theorem segmentGap_no (k0 ep fi : Nat) (x : Int) (hx : ¬ (1 ≤ x ∧ x ≤ 32)) (hk : k0 ≤ 18446744073709551615) (hep : ep ≤ 18446744073709551615) (hfi : fi ≤ 18446744073709551615) (A : Option Addr) (n c : Nat) (x2 x3 : Value) (w : World) (hL : Laid8 w) :
    Calls Tryz.prog 8 #[.agg #[.int .u64 k0, .int .u64 ep, .int .u64 fi, .int .i64 x], .slice A n c, x2, x3] w fun r w' => r = .returned (.bool true) ∧ Below w.heap.size w w' := by
  have R0 := Row.fresh w w.heap.size rfl 32 [.int .u64 k0, .int .u64 ep, .int .u64 fi, .int .i64 x] #[.int .u64 k0, .int .u64 ep, .int .u64 fi, .int .i64 x] rfl
  have HR := Lib.hid R0
  have HB := Lib.hid (below_alloc1 (Below.refl w.heap.size w) (Nat.le_refl _) (.cells #[.int .u64 k0, .int .u64 ep, .int .u64 fi, .int .i64 x] 32))
  have HL := Lib.hid (hL.below HB.out)
  have HX := Lib.hid hx
  clear hx R0 hL
  go_enter Tryz.func8, Tryz.ntmps8
  go_wp2_with (first
    | (go_at_call 12; go_loud (with_reducible refine (awake8_calls _ HL.out).mono ?_); rintro r1 w1 ⟨rfl, hb1⟩; have B1 := Lib.hid (below_then HB.out hb1); have R1 := HR.out.new hb1; have x0 := R1.c 0 _ rfl; have x1 := R1.c 1 _ rfl; have x2 := R1.c 2 _ rfl; have x3 := R1.c 3 _ rfl; clear R1)
    | (go_at_call 28; go_loud (with_reducible refine (laid_no k0 ep fi x HX.out hk hep hfi A n c _).mono ?_); rintro r2 w2 ⟨rfl, hb2⟩; have B2 := Lib.hid (below_then B1.out hb2)))
  go_ret
  exact ⟨rfl, B2.out⟩
set_option maxHeartbeats 1000000 in
set_option maxRecDepth 100000 in
theorem segmentGap_yes (h : HdV) (hH : HdOk h) (A : Option Addr) (bs : List BvV) (n c : Nat) (w : World) (hL : Laid8 w) (hB : Bats w A bs) (hn : n = bs.length) (hl : n ≤ 1048576) (hs : ∀ b ∈ bs, b.es.length * 56 ≤ 140737488355328 ∧ SmallEs b.es) (gap : Nat) (hg64 : gap ≤ 18446744073709551615) (kk : Int) :
    Calls Tryz.prog 8 #[.agg #[.int .u64 h.n, .int .u64 h.ep, .int .u64 h.f, .int .i64 h.w], .slice A n c, .int .u64 gap, .int .i64 kk] w fun r w' => r = .returned (.bool true) ∧ Below w.heap.size w w' := by
  have R0 := Row.fresh w w.heap.size rfl 32 [.int .u64 h.n, .int .u64 h.ep, .int .u64 h.f, .int .i64 h.w] #[.int .u64 h.n, .int .u64 h.ep, .int .u64 h.f, .int .i64 h.w] rfl
  have HR := Lib.hid R0
  have HB := Lib.hid (below_alloc1 (Below.refl w.heap.size w) (Nat.le_refl _) (.cells #[.int .u64 h.n, .int .u64 h.ep, .int .u64 h.f, .int .i64 h.w] 32))
  have HL := Lib.hid (hL.below HB.out)
  have HH := Lib.hid hH
  have HBT := Lib.hid hB
  have HN := Lib.hid hn
  have HS := Lib.hid hs
  clear R0 hL hH hB hn hs
  go_enter Tryz.func8, Tryz.ntmps8
  go_wp2_with (first
    | (go_at_call 12; go_loud (with_reducible refine (awake8_calls _ HL.out).mono ?_); rintro x1 w1 ⟨rfl, hb1⟩; have B1 := Lib.hid (below_then HB.out hb1); have R1 := HR.out.new hb1; have x0 := R1.c 0 _ rfl; have x1 := R1.c 1 _ rfl; have x2 := R1.c 2 _ rfl; have x3 := R1.c 3 _ rfl; have R1 := Lib.hid R1))
  go_at_call 28
  with_reducible refine (laid_yes h HH.out A bs n c _ (HBT.out.new B1.out) HN.out hl HS.out).mono ?_
  rintro x2 w2 ⟨hb2, rfl | ⟨A1, c1, A2, c2, A3, c3, m, rfl, hm, hok⟩⟩
  · have B2 := Lib.hid (below_then B1.out hb2)
    go_wp2
    go_ret
    exact ⟨rfl, B2.out⟩
  · have B2 := Lib.hid (below_then B1.out hb2)
    have R2 := R1.out.new hb2
    have x0 := R2.c 0 _ rfl
    have x1 := R2.c 1 _ rfl
    have x2 := R2.c 2 _ rfl
    have x3 := R2.c 3 _ rfl
    have R2 := Lib.hid R2
    have hcl : n = (consOf bs).length := by rw [consOf_length]; exact HN.out
    have HM := Lib.hid hm
    have HCL := Lib.hid hcl
    have HOKT := Lib.hid hok
    clear hm hcl hok
    by_cases hg : 0 ≤ kk ∧ kk < n ∧ gap ≠ 0 ∧ m ≤ 40000
    · obtain ⟨k, rfl⟩ := Int.eq_ofNat_of_zero_le hg.1
      have hkn : k < n := by omega
      have hm4 : m ≤ 40000 := hg.2.2.2
      obtain ⟨ds, hds, hdf⟩ := HOKT.out.all
      have hdn : n = ds.length := by rw [HCL.out, ← ixB_length (consOf bs) h.f, ← hdf, List.length_map]
      obtain ⟨ad, d, rfl, hd, hdm, hde, l0, l1⟩ := hds.at_ k (by rw [← hdn]; exact hkn)
      obtain ⟨a3, hA3, hcu⟩ := HOKT.out.at_ k (by rw [← HCL.out]; omega)
      subst hA3
      obtain ⟨u, hu⟩ : ∃ u, u = endN h.f (consOf bs) k := ⟨_, rfl⟩
      have hum : u ≤ m := by
        have := congrArg List.length (take_endN h (consOf bs) k)
        rw [List.length_take, ← hu, ← HM.out, List.length_append, headL_length] at this
        have e : u = 48 + (frB h.f ((consOf bs).take k)).length := hu
        omega
      have hlk : (consOf bs)[k]? = some (ensOf d.es) ∧ d.f = endIx h.f ((consOf bs).take k) := by
        have hkl : k < (consOf bs).length := by rw [← HCL.out]; exact hkn
        have h1 : (ds.map BvV.fst)[k]? = some d.fst := by rw [List.getElem?_map, hd]; rfl
        have h2 := ixB_succ h.f (consOf bs) k _ (List.getElem?_eq_getElem hkl)
        have h3 : (ixB h.f (consOf bs)).take (k + 1) = (ixB h.f (consOf bs)).take k ++ [(endIx h.f ((consOf bs).take k), (consOf bs)[k])] := by rw [← ixB_take, ← ixB_take]; exact h2
        have h4 : ((ixB h.f (consOf bs)).take (k + 1))[k]? = some (endIx h.f ((consOf bs).take k), (consOf bs)[k]) := by
          rw [h3, List.getElem?_append_right (by rw [List.length_take]; exact Nat.min_le_left _ _), List.length_take, ixB_length, Nat.min_eq_left (Nat.le_of_lt hkl)]
          simp
        rw [List.getElem?_take, if_pos (Nat.lt_succ_self _), ← hdf, h1] at h4
        obtain ⟨e1, e2⟩ := Prod.mk.inj (Option.some.inj h4)
        exact ⟨by rw [List.getElem?_eq_getElem hkl, ← e2], e1⟩
      have hen := okBs_at _ _ _ _ hlk.1 HOKT.out.bs
      have hsm : SmallEs d.es := smallEs_of (encBF_ok _ _ _ hen).2.2.2.2
      have h64 : d.es.length ≤ 64 := by
        have := (encBF_ok _ _ _ hen).2.2.2.1
        simpa [ensOf] using this
      have hdf64 : d.f ≤ 18446744073709551615 := by rw [hlk.2]; exact (okBs_ix hen).1
      obtain ⟨ix, hix⟩ : ∃ ix, ix = (d.f + gap) % 18446744073709551616 := ⟨_, rfl⟩
      have hix64 : ix ≤ 18446744073709551615 := by omega
      have hixn : ix ≠ d.f := by omega
      have hwrap : IntKind.u64.wrap ((d.f : Int) + (gap : Int)) = (ix : Int) := by rw [IntKind.wrap_u64, hix]; omega
      obtain ⟨q, e8, hq⟩ : ∃ q e8, segB ix (ensOf d.es) = (q, e8) := ⟨_, _, rfl⟩
      obtain ⟨nq, hnq⟩ : ∃ nq, nq = q.length := ⟨_, rfl⟩
      have hqs : nq ≤ 21862 := by have := segB_len ix (ensOf d.es); rw [hq] at this; simp only at this; omega
      have HGR : Hid (e8 = 0 → readF ((headL h ++ frB h.f (consOf bs)).take u ++ (q ++ (headL h ++ frB h.f (consOf bs)).drop u)) = ⟨h, ixB h.f ((consOf bs).take k), u, 0⟩) := Lib.hid fun e => by
        subst e
        rw [hu]
        exact gap_read h HOKT.out.ok (consOf bs) HOKT.out.bs k ix (ensOf d.es) (by rw [← hlk.2]; exact hixn) q hq
      have HQ := Lib.hid hq
      have HNQ := Lib.hid hnq
      have HDF := Lib.hid hdf
      have HDN := Lib.hid hdn
      have HDS := Lib.hid hds
      rw [← hu] at hcu
      have HCUL := Lib.hid hcu
      have HU := Lib.hid hu
      have HSM := Lib.hid hsm
      have HDE := Lib.hid hde
      have HIXN := Lib.hid hixn
      obtain ⟨df, dA, dc, des⟩ := d
      simp only at l0 l1 hwrap h64 hdf64
      obtain ⟨nd, hnd⟩ : ∃ nd, nd = des.length := ⟨_, rfl⟩
      rw [← hnd] at l1 h64
      have HND := Lib.hid hnd
      have l1 : w2.cell? ⟨(ad.add (k * 2)).block, (ad.add (k * 2)).off + 1, none⟩ = some (.slice dA nd dc) := by rw [← addr_succ]; exact l1
      have g1 : ¬ ((k : Int) < 0) := by omega
      have d1 : decide ((k : Int) < 0) = false := by simp
      have d2 : ¬ (n ≤ k) := by omega
      have d2b : decide (n ≤ k) = false := by simp; omega
      have d3 : ((gap : Int) == 0) = false := by rw [beq_eq_false_iff_ne]; omega
      have d4 : ¬ (40000 < m) := by omega
      have d5 : ¬ ((40000 : Int) < (m : Int)) := by omega
      have d5b : decide ((40000 : Int) < (m : Int)) = false := by simp; omega
      clear hd hdm hlk hen hdf hdn hds hcu hu hsm hde hq hnq hg hix hixn hnd
      by_cases h8 : e8 = 0
      · subst h8
        have hgr := HGR.out rfl
        obtain ⟨ln, hln⟩ : ∃ ln, ln = u + (nq + (m - u)) := ⟨_, rfl⟩
        have hdl : m - u = ((headL h ++ frB h.f (consOf bs)).drop u).length := by rw [List.length_drop, ← HM.out]
        have htl : u = ((headL h ++ frB h.f (consOf bs)).take u).length := by rw [List.length_take, ← HM.out]; omega
        have hX : ((headL h ++ frB h.f (consOf bs)).take u ++ (q ++ (headL h ++ frB h.f (consOf bs)).drop u)).length = ln := by
          rw [List.length_append, List.length_append, ← htl, ← hdl, ← HNQ.out, hln]
        have hkb : k = (ixB h.f ((consOf bs).take k)).length := by rw [ixB_length, List.length_take, ← HCL.out]; omega
        have HD : Hid (∀ (A : Option Addr) (c : Nat) (w : World), RB w A c ((headL h ++ frB h.f (consOf bs)).take u ++ (q ++ (headL h ++ frB h.f (consOf bs)).drop u)) → Calls Tryz.prog 24 #[.slice A ln c] w fun r w' => ∃ A' c' es, r = .returned (.tuple #[.agg #[.int .u64 h.n, .int .u64 h.ep, .int .u64 h.f, .int .i64 h.w, .slice A' k c', .int .i64 u], .int .i64 (0 : Nat)]) ∧ BL w' (w.heap.size + 1) (.slice A' k c') es ∧ es.map BtV.fst = ixB h.f ((consOf bs).take k) ∧ Below w.heap.size w w') := Lib.hid fun A c w hp => by
          have := segReadB8 _ _ hgr (by rw [hX]; omega) k hkb A c w hp
          rw [hX] at this
          exact this.mono fun r w' ⟨A', c', es, h1, h2, h3, _, h4⟩ => ⟨A', c', es, h1, h2, h3, h4⟩
        have HDL := Lib.hid hdl
        have HTL := Lib.hid htl
        have HLN := Lib.hid hln
        have hcutH := fun w' : World => run_cut_h w' A1 m c1 u u rfl (by have := HOKT.out.rb.len; rw [← HM.out] at this; omega)
        have hcutL := fun w' : World => run_cut_l w' A1 m c1 u u rfl hum
        have h00 : (((0 : Nat) : Int) != 0) = false := rfl
        have d6 : ¬ ((n : Int) + 1 ≤ (k : Int)) := by omega
        have d7 : ¬ (n + 1 ≤ k) := by omega
        clear hgr hln hdl htl hX hkb
        go_upto_region 11 with (first
          | (go_at_call 21; go_loud (with_reducible refine (twinB_calls df dA des nd dc _ HDE.out HND.out (by omega) HSM.out).mono ?_); rintro r3 w3 ⟨A3', c3', es3, rfl, hl3, he3, hb3⟩; have T3 := Duo.fresh w3 w3.heap.size rfl (.int .u64 df) (.slice A3' nd c3') 35; have n3 : Below w3.heap.size w3 (w3.alloc (.cells #[.int .u64 ix, .slice A3' nd c3'] 35)) := Bl.alloc _ _; have L3 := Lib.hid (hl3.reads.new n3); have E3 := Lib.hid he3; have Q3 := Lib.hid hl3.len; have t0 := T3.c0; have t1 := T3.c1; have f0 := T3.fz 0; have HB3 := Lib.hid (below_then hb3 n3); clear T3 hl3 he3 hb3 n3)
          | (go_at_call 20; go_loud (with_reducible refine (segBatch_calls ix _ rfl hix64 A3' nd c3' es3 _ L3.out Q3.out (by omega) q _ (by rw [E3.out]; exact HQ.out) nq HNQ.out).mono ?_); rintro r4 w4 ⟨A8, c8, rfl, hn4⟩; have HB4 := Lib.hid (below_then HB3.out hn4.below); have HQR := Lib.hid hn4.own.rb; clear t0 t1 f0 hn4))
        obtain ⟨wG, hwG⟩ : ∃ x, x = w4 := ⟨_, rfl⟩
        subst hwG
        have HPT := Lib.hid ((HOKT.out.rb.take u).new HB4.out)
        have HPD := Lib.hid (show RB wG (cutA A1 u c1) (c1 - u) ((headL h ++ frB h.f (consOf bs)).drop u) by
          have := (HOKT.out.rb.new HB4.out).cut u m hum (by rw [← HM.out]; exact Nat.le_refl _)
          rwa [List.take_of_length_le (by rw [List.length_drop, ← HM.out]; exact Nat.le_refl _)] at this)
        have HCU := Lib.hid ((HB4.out.cell (World.block_lt_of_cell? _ _ HCUL.out)).trans HCUL.out)
        go_cut [16, 17] from 66 (fun s16 s17 wx => ∃ (g : Nat) (A6 : Option Addr) (c6 : Nat) (es6 : List BtV), s16 = .pointer (some ⟨g, 0, none⟩) ∧ s17 = .int .i64 (0 : Nat) ∧ Row wx g 51 [.int .u64 h.n, .int .u64 h.ep, .int .u64 h.f, .int .i64 h.w, .slice A6 k c6, .int .i64 u] ∧ (∃ base, BL wx base (.slice A6 k c6) es6) ∧ es6.map BtV.fst = ixB h.f ((consOf bs).take k) ∧ Below wG.heap.size wG wx)
        case first =>
          -- region 11
          refine wp_region_held_drew (S := fun w' => Below wG.heap.size wG w') (by kernel_rfl) (Bl.drew _) (fun hHeld => ?_)
          generalize wG.drew = wd at hHeld ⊢
          refine wpAnyH_take (i := 0) (v := .slice A1 m c1) rfl (by kernel_rfl) (by kernel_rfl) (by kernel_rfl) (fun _ _ _ h => h) (Or.inl ⟨by rfl, fun w hS => by go_simp⟩) (by assumption) ?_
          try simp only [Act.put, List.getElem_toArray, List.getElem_cons_succ, List.getElem_cons_zero, List.setIfInBounds_toArray, List.set_cons_zero, List.set_cons_succ]
          refine wpAnyH_take (i := 1) (v := .slice (some a3) (n + 1) c3) rfl (by kernel_rfl) (by kernel_rfl) (by kernel_rfl) (fun _ _ _ h => h) (Or.inl ⟨by rfl, fun w hS => by go_simp⟩) (by assumption) ?_
          try simp only [Act.put, List.getElem_toArray, List.getElem_cons_succ, List.getElem_cons_zero, List.setIfInBounds_toArray, List.set_cons_zero, List.set_cons_succ]
          refine wpAnyH_take (i := 2) (v := .int .i64 k) rfl (by kernel_rfl) (by kernel_rfl) (by kernel_rfl) (fun _ _ _ h => h) (Or.inl ⟨by rfl, fun w hS => by go_simp⟩) (by assumption) ?_
          try simp only [Act.put, List.getElem_toArray, List.getElem_cons_succ, List.getElem_cons_zero, List.setIfInBounds_toArray, List.set_cons_zero, List.set_cons_succ]
          refine wpAnyH_take (i := 3) (v := .pointer (some (a3.add k))) rfl (by kernel_rfl) (by kernel_rfl) (by kernel_rfl) (fun _ _ _ h => h) (Or.inl ⟨by rfl, fun w hS => by go_simp⟩) (by assumption) ?_
          try simp only [Act.put, List.getElem_toArray, List.getElem_cons_succ, List.getElem_cons_zero, List.setIfInBounds_toArray, List.set_cons_zero, List.set_cons_succ]
          refine wpAnyH_take (i := 4) (v := .int .i64 u) rfl (by kernel_rfl) (by kernel_rfl) (by kernel_rfl) (fun _ _ _ h => h) (Or.inl ⟨by rfl, fun w hS => by have hcu := (hS.cell (World.block_lt_of_cell? _ _ HCU.out)).trans HCU.out; go_simp⟩) (by assumption) ?_
          try simp only [Act.put, List.getElem_toArray, List.getElem_cons_succ, List.getElem_cons_zero, List.setIfInBounds_toArray, List.set_cons_zero, List.set_cons_succ]
          refine wpAnyH_take (i := 5) (v := .slice A1 u c1) rfl (by kernel_rfl) (by kernel_rfl) (by kernel_rfl) (fun _ _ _ h => h) (Or.inl ⟨by rfl, fun w hS => by go_simp⟩) (by assumption) ?_
          try simp only [Act.put, List.getElem_toArray, List.getElem_cons_succ, List.getElem_cons_zero, List.setIfInBounds_toArray, List.set_cons_zero, List.set_cons_succ]
          refine wpAnyH_take (i := 6) (v := .slice A8 nq c8) rfl (by kernel_rfl) (by kernel_rfl) (by kernel_rfl) (fun _ _ _ h => h) (Or.inl ⟨by rfl, fun w hS => by go_simp⟩) (by assumption) ?_
          try simp only [Act.put, List.getElem_toArray, List.getElem_cons_succ, List.getElem_cons_zero, List.setIfInBounds_toArray, List.set_cons_zero, List.set_cons_succ]
          refine wpAnyH_take (i := 7) (v := .slice A1 m c1) rfl (by kernel_rfl) (by kernel_rfl) (by kernel_rfl) (fun _ _ _ h => h) (Or.inl ⟨by rfl, fun w hS => by go_simp⟩) (by assumption) ?_
          try simp only [Act.put, List.getElem_toArray, List.getElem_cons_succ, List.getElem_cons_zero, List.setIfInBounds_toArray, List.set_cons_zero, List.set_cons_succ]
          refine wpAnyH_take (i := 8) (v := .slice (some a3) (n + 1) c3) rfl (by kernel_rfl) (by kernel_rfl) (by kernel_rfl) (fun _ _ _ h => h) (Or.inl ⟨by rfl, fun w hS => by go_simp⟩) (by assumption) ?_
          try simp only [Act.put, List.getElem_toArray, List.getElem_cons_succ, List.getElem_cons_zero, List.setIfInBounds_toArray, List.set_cons_zero, List.set_cons_succ]
          refine wpAnyH_take (i := 9) (v := .int .i64 k) rfl (by kernel_rfl) (by kernel_rfl) (by kernel_rfl) (fun _ _ _ h => h) (Or.inl ⟨by rfl, fun w hS => by go_simp⟩) (by assumption) ?_
          try simp only [Act.put, List.getElem_toArray, List.getElem_cons_succ, List.getElem_cons_zero, List.setIfInBounds_toArray, List.set_cons_zero, List.set_cons_succ]
          refine wpAnyH_take (i := 10) (v := .pointer (some (a3.add k))) rfl (by kernel_rfl) (by kernel_rfl) (by kernel_rfl) (fun _ _ _ h => h) (Or.inl ⟨by rfl, fun w hS => by go_simp⟩) (by assumption) ?_
          try simp only [Act.put, List.getElem_toArray, List.getElem_cons_succ, List.getElem_cons_zero, List.setIfInBounds_toArray, List.set_cons_zero, List.set_cons_succ]
          refine wpAnyH_take (i := 11) (v := .int .i64 u) rfl (by kernel_rfl) (by kernel_rfl) (by kernel_rfl) (fun _ _ _ h => h) (Or.inl ⟨by rfl, fun w hS => by have hcu := (hS.cell (World.block_lt_of_cell? _ _ HCU.out)).trans HCU.out; go_simp⟩) (by assumption) ?_
          try simp only [Act.put, List.getElem_toArray, List.getElem_cons_succ, List.getElem_cons_zero, List.setIfInBounds_toArray, List.set_cons_zero, List.set_cons_succ]
          refine wpAnyH_take (i := 12) (v := .slice (cutA A1 u c1) (m - u) (c1 - u)) rfl (by kernel_rfl) (by kernel_rfl) (by kernel_rfl) (fun _ _ _ h => h) (Or.inl ⟨by rfl, fun w hS => by go_simp⟩) (by assumption) ?_
          try simp only [Act.put, List.getElem_toArray, List.getElem_cons_succ, List.getElem_cons_zero, List.setIfInBounds_toArray, List.set_cons_zero, List.set_cons_succ]
          refine wpAnyH_ready (rs := [13, 19]) (by kernel_rfl) (by simp) ?_
          refine AllReadyH.cons rfl (fun K hK => ?_) (AllReadyH.cons rfl (fun K hK => ?_) (AllReadyH.nil))
          · skip
            go_simp
            (go_at_call 30; go_loud (with_reducible refine (joinN A8 (cutA A1 u c1) _ _ _ nq (m - u) (nq + (m - u)) c8 (c1 - u) _ (HQR.out.new hHeld) (HPD.out.new hHeld) HNQ.out HDL.out (by rw [← HNQ.out, ← HDL.out]) rfl (by rw [← HNQ.out, ← HDL.out]; omega)).mono ?_); rintro e5 w5 ⟨A5, c5, rfl, hn5⟩)
            dsimp only
            refine hK.out _ _ (below_then hHeld hn5.below) (fun H_1 => ?_)
            clear hK K
            try simp only [Act.put, List.getElem_toArray, List.getElem_cons_succ, List.getElem_cons_zero, List.setIfInBounds_toArray, List.set_cons_zero, List.set_cons_succ]
            refine wpAnyH_ready (rs := [14, 19]) (by kernel_rfl) (by simp) ?_
            refine AllReadyH.cons rfl (fun K hK => ?_) (AllReadyH.cons rfl (fun K hK => ?_) (AllReadyH.nil))
            · skip
              go_simp
              (go_at_call 30; go_loud (with_reducible refine (joinN A1 A5 _ _ _ u (nq + (m - u)) ln c1 c5 _ (HPT.out.new H_1) hn5.own.rb HTL.out (by rw [List.length_append, ← HNQ.out, ← HDL.out]) (by rw [List.length_append, ← HTL.out, ← HNQ.out, ← HDL.out]; exact HLN.out) rfl (by rw [List.length_append, ← HTL.out, ← HNQ.out, ← HDL.out]; omega)).mono ?_); rintro e9 w9 ⟨A9, c9, rfl, hn9⟩)
              dsimp only
              refine hK.out _ _ (below_then H_1 hn9.below) (fun H_2 => ?_)
              clear hK K
              try simp only [Act.put, List.getElem_toArray, List.getElem_cons_succ, List.getElem_cons_zero, List.setIfInBounds_toArray, List.set_cons_zero, List.set_cons_succ]
              refine wpAnyH_ready (rs := [15, 19]) (by kernel_rfl) (by simp) ?_
              refine AllReadyH.cons rfl (fun K hK => ?_) (AllReadyH.cons rfl (fun K hK => ?_) (AllReadyH.nil))
              · skip
                go_simp
                (go_at_call 24; go_loud (with_reducible refine (HD.out _ _ _ hn9.own.rb).mono ?_); rintro e6 w6 ⟨A6, c6, es6, rfl, hL6, he6, hb6⟩)
                dsimp only
                refine hK.out _ _ (below_then H_2 hb6) (fun H_3 => ?_)
                clear hK K
                try simp only [Act.put, List.getElem_toArray, List.getElem_cons_succ, List.getElem_cons_zero, List.setIfInBounds_toArray, List.set_cons_zero, List.set_cons_succ]
                refine wpAnyH_take (i := 16) (v := .tuple #[.agg #[.int .u64 h.n, .int .u64 h.ep, .int .u64 h.f, .int .i64 h.w, .slice A6 k c6, .int .i64 u], .int .i64 (0 : Nat)]) rfl (by kernel_rfl) (by kernel_rfl) (by kernel_rfl) (fun _ _ _ h => h) (Or.inl ⟨by rfl, fun w hS => by go_simp⟩) (by assumption) ?_
                try simp only [Act.put, List.getElem_toArray, List.getElem_cons_succ, List.getElem_cons_zero, List.setIfInBounds_toArray, List.set_cons_zero, List.set_cons_succ]
                refine wpAnyH_take (i := 17) (v := .agg #[.int .u64 h.n, .int .u64 h.ep, .int .u64 h.f, .int .i64 h.w, .slice A6 k c6, .int .i64 u]) rfl (by kernel_rfl) (by kernel_rfl) (by kernel_rfl) (fun _ _ _ h => h) (Or.inl ⟨by rfl, fun w hS => by go_simp⟩) (by assumption) ?_
                try simp only [Act.put, List.getElem_toArray, List.getElem_cons_succ, List.getElem_cons_zero, List.setIfInBounds_toArray, List.set_cons_zero, List.set_cons_succ]
                refine wpAnyH_take (i := 18) (v := .int .i64 (0 : Nat)) rfl (by kernel_rfl) (by kernel_rfl) (by kernel_rfl) (fun _ _ _ h => h) (Or.inl ⟨by rfl, fun w hS => by go_simp⟩) (by assumption) ?_
                try simp only [Act.put, List.getElem_toArray, List.getElem_cons_succ, List.getElem_cons_zero, List.setIfInBounds_toArray, List.set_cons_zero, List.set_cons_succ]
                refine wpAnyH_ready (rs := [19]) (by kernel_rfl) (by simp) ?_
                refine AllReadyH.cons rfl (fun K hK => ?_) (AllReadyH.nil)
                · skip
                  go_simp
                  have R_4 := Row.fresh w6 w6.heap.size rfl 51 [.int .u64 0, .int .u64 0, .int .u64 0, .int .i64 0, .slice none 0 0, .int .i64 0] #[.int .u64 0, .int .u64 0, .int .u64 0, .int .i64 0, .slice none 0 0, .int .i64 0] rfl
                  have B6_4 := below_then (Below.refl w6.heap.size w6) (Bl.alloc w6 (.cells #[.int .u64 0, .int .u64 0, .int .u64 0, .int .i64 0, .slice none 0 0, .int .i64 0] 51))
                  refine hK.out _ _ (below_then H_3 (Bl.alloc w6 (.cells #[.int .u64 0, .int .u64 0, .int .u64 0, .int .i64 0, .slice none 0 0, .int .i64 0] 51))) (fun H_4 => ?_)
                  generalize (w6.alloc (.cells #[.int .u64 0, .int .u64 0, .int .u64 0, .int .i64 0, .slice none 0 0, .int .i64 0] 51)) = wa at H_4 R_4 B6_4 ⊢
                  clear hK K
                  try simp only [Act.put, List.getElem_toArray, List.getElem_cons_succ, List.getElem_cons_zero, List.setIfInBounds_toArray, List.set_cons_zero, List.set_cons_succ]
                  refine wpAnyH_ready (rs := [20]) (by kernel_rfl) (by simp) ?_
                  refine AllReadyH.cons rfl (fun K hK => ?_) (AllReadyH.nil)
                  · skip
                    go_simp
                    have r0 := R_4.c 0 _ rfl; have f0 := R_4.fz 0
                    have r1 := R_4.c 1 _ rfl; have f1 := R_4.fz 1
                    have r2 := R_4.c 2 _ rfl; have f2 := R_4.fz 2
                    have r3 := R_4.c 3 _ rfl; have f3 := R_4.fz 3
                    have r4 := R_4.c 4 _ rfl; have f4 := R_4.fz 4
                    have r5 := R_4.c 5 _ rfl; have f5 := R_4.fz 5
                    go_simp
                    refine hK.out _ _ (below_put6 H_4 (H_3.size) _ _ _ _ _ _) (fun H_5 => ?_)
                    clear hK K
                    try simp only [Act.put, List.getElem_toArray, List.getElem_cons_succ, List.getElem_cons_zero, List.setIfInBounds_toArray, List.set_cons_zero, List.set_cons_succ]
                    refine wpAnyH_take (i := 21) (v := .int .i64 (0 : Nat)) rfl (by kernel_rfl) (by kernel_rfl) (by kernel_rfl) (fun _ _ _ h => h) (Or.inl ⟨by rfl, fun w hS => by go_simp⟩) (by assumption) ?_
                    try simp only [Act.put, List.getElem_toArray, List.getElem_cons_succ, List.getElem_cons_zero, List.setIfInBounds_toArray, List.set_cons_zero, List.set_cons_succ]
                    refine wpAnyH_done (by kernel_rfl) ?_ _
                    go_wp2_with fail
                    go_meet
                    exact ⟨_, A6, c6, es6, rfl, rfl, R_4.put6 _ _ _ _ _ _, torn_end hL6 B6_4 (.inr (Nat.le_refl _)), he6, below_put6 H_4 (Nat.le_trans (Nat.le_refl _) H_3.size) _ _ _ _ _ _⟩
              · skip
                go_simp
                have R_6 := Row.fresh w9 w9.heap.size rfl 51 [.int .u64 0, .int .u64 0, .int .u64 0, .int .i64 0, .slice none 0 0, .int .i64 0] #[.int .u64 0, .int .u64 0, .int .u64 0, .int .i64 0, .slice none 0 0, .int .i64 0] rfl
                have J_6 := (hn9.own.rb).new (Bl.alloc w9 (.cells #[.int .u64 0, .int .u64 0, .int .u64 0, .int .i64 0, .slice none 0 0, .int .i64 0] 51))
                refine hK.out _ _ (below_then H_2 (Bl.alloc w9 (.cells #[.int .u64 0, .int .u64 0, .int .u64 0, .int .i64 0, .slice none 0 0, .int .i64 0] 51))) (fun H_6 => ?_)
                generalize (w9.alloc (.cells #[.int .u64 0, .int .u64 0, .int .u64 0, .int .i64 0, .slice none 0 0, .int .i64 0] 51)) = wa at H_6 R_6 J_6 ⊢
                clear hK K
                try simp only [Act.put, List.getElem_toArray, List.getElem_cons_succ, List.getElem_cons_zero, List.setIfInBounds_toArray, List.set_cons_zero, List.set_cons_succ]
                refine wpAnyH_ready (rs := [15]) (by kernel_rfl) (by simp) ?_
                refine AllReadyH.cons rfl (fun K hK => ?_) (AllReadyH.nil)
                · skip
                  go_simp
                  (go_at_call 24; go_loud (with_reducible refine (HD.out _ _ _ J_6).mono ?_); rintro e6 w6 ⟨A6, c6, es6, rfl, hL6, he6, hb6⟩)
                  dsimp only
                  have R_7 := R_6.new hb6
                  refine hK.out _ _ (below_then H_6 hb6) (fun H_7 => ?_)
                  clear hK K
                  try simp only [Act.put, List.getElem_toArray, List.getElem_cons_succ, List.getElem_cons_zero, List.setIfInBounds_toArray, List.set_cons_zero, List.set_cons_succ]
                  refine wpAnyH_take (i := 16) (v := .tuple #[.agg #[.int .u64 h.n, .int .u64 h.ep, .int .u64 h.f, .int .i64 h.w, .slice A6 k c6, .int .i64 u], .int .i64 (0 : Nat)]) rfl (by kernel_rfl) (by kernel_rfl) (by kernel_rfl) (fun _ _ _ h => h) (Or.inl ⟨by rfl, fun w hS => by go_simp⟩) (by assumption) ?_
                  try simp only [Act.put, List.getElem_toArray, List.getElem_cons_succ, List.getElem_cons_zero, List.setIfInBounds_toArray, List.set_cons_zero, List.set_cons_succ]
                  refine wpAnyH_take (i := 17) (v := .agg #[.int .u64 h.n, .int .u64 h.ep, .int .u64 h.f, .int .i64 h.w, .slice A6 k c6, .int .i64 u]) rfl (by kernel_rfl) (by kernel_rfl) (by kernel_rfl) (fun _ _ _ h => h) (Or.inl ⟨by rfl, fun w hS => by go_simp⟩) (by assumption) ?_
                  try simp only [Act.put, List.getElem_toArray, List.getElem_cons_succ, List.getElem_cons_zero, List.setIfInBounds_toArray, List.set_cons_zero, List.set_cons_succ]
                  refine wpAnyH_take (i := 18) (v := .int .i64 (0 : Nat)) rfl (by kernel_rfl) (by kernel_rfl) (by kernel_rfl) (fun _ _ _ h => h) (Or.inl ⟨by rfl, fun w hS => by go_simp⟩) (by assumption) ?_
                  try simp only [Act.put, List.getElem_toArray, List.getElem_cons_succ, List.getElem_cons_zero, List.setIfInBounds_toArray, List.set_cons_zero, List.set_cons_succ]
                  refine wpAnyH_ready (rs := [20]) (by kernel_rfl) (by simp) ?_
                  refine AllReadyH.cons rfl (fun K hK => ?_) (AllReadyH.nil)
                  · skip
                    go_simp
                    have r0 := R_7.c 0 _ rfl; have f0 := R_7.fz 0
                    have r1 := R_7.c 1 _ rfl; have f1 := R_7.fz 1
                    have r2 := R_7.c 2 _ rfl; have f2 := R_7.fz 2
                    have r3 := R_7.c 3 _ rfl; have f3 := R_7.fz 3
                    have r4 := R_7.c 4 _ rfl; have f4 := R_7.fz 4
                    have r5 := R_7.c 5 _ rfl; have f5 := R_7.fz 5
                    go_simp
                    refine hK.out _ _ (below_put6 H_7 (H_2.size) _ _ _ _ _ _) (fun H_8 => ?_)
                    clear hK K
                    try simp only [Act.put, List.getElem_toArray, List.getElem_cons_succ, List.getElem_cons_zero, List.setIfInBounds_toArray, List.set_cons_zero, List.set_cons_succ]
                    refine wpAnyH_take (i := 21) (v := .int .i64 (0 : Nat)) rfl (by kernel_rfl) (by kernel_rfl) (by kernel_rfl) (fun _ _ _ h => h) (Or.inl ⟨by rfl, fun w hS => by go_simp⟩) (by assumption) ?_
                    try simp only [Act.put, List.getElem_toArray, List.getElem_cons_succ, List.getElem_cons_zero, List.setIfInBounds_toArray, List.set_cons_zero, List.set_cons_succ]
                    refine wpAnyH_done (by kernel_rfl) ?_ _
                    go_wp2_with fail
                    go_meet
                    exact ⟨_, A6, c6, es6, rfl, rfl, R_7.put6 _ _ _ _ _ _, torn_end hL6 (Below.refl w6.heap.size w6) (.inl (Nat.lt_succ_of_lt R_6.lt)), he6, below_put6 H_7 (Nat.le_trans (Nat.le_refl _) H_2.size) _ _ _ _ _ _⟩
            · skip
              go_simp
              have R_9 := Row.fresh w5 w5.heap.size rfl 51 [.int .u64 0, .int .u64 0, .int .u64 0, .int .i64 0, .slice none 0 0, .int .i64 0] #[.int .u64 0, .int .u64 0, .int .u64 0, .int .i64 0, .slice none 0 0, .int .i64 0] rfl
              have J_9 := (hn5.own.rb).new (Bl.alloc w5 (.cells #[.int .u64 0, .int .u64 0, .int .u64 0, .int .i64 0, .slice none 0 0, .int .i64 0] 51))
              refine hK.out _ _ (below_then H_1 (Bl.alloc w5 (.cells #[.int .u64 0, .int .u64 0, .int .u64 0, .int .i64 0, .slice none 0 0, .int .i64 0] 51))) (fun H_9 => ?_)
              generalize (w5.alloc (.cells #[.int .u64 0, .int .u64 0, .int .u64 0, .int .i64 0, .slice none 0 0, .int .i64 0] 51)) = wa at H_9 R_9 J_9 ⊢
              clear hK K
              try simp only [Act.put, List.getElem_toArray, List.getElem_cons_succ, List.getElem_cons_zero, List.setIfInBounds_toArray, List.set_cons_zero, List.set_cons_succ]
              refine wpAnyH_ready (rs := [14]) (by kernel_rfl) (by simp) ?_
              refine AllReadyH.cons rfl (fun K hK => ?_) (AllReadyH.nil)
              · skip
                go_simp
                (go_at_call 30; go_loud (with_reducible refine (joinN A1 A5 _ _ _ u (nq + (m - u)) ln c1 c5 _ (HPT.out.new H_9) J_9 HTL.out (by rw [List.length_append, ← HNQ.out, ← HDL.out]) (by rw [List.length_append, ← HTL.out, ← HNQ.out, ← HDL.out]; exact HLN.out) rfl (by rw [List.length_append, ← HTL.out, ← HNQ.out, ← HDL.out]; omega)).mono ?_); rintro e9 w9 ⟨A9, c9, rfl, hn9⟩)
                dsimp only
                have R_10 := R_9.new hn9.below
                refine hK.out _ _ (below_then H_9 hn9.below) (fun H_10 => ?_)
                clear hK K
                try simp only [Act.put, List.getElem_toArray, List.getElem_cons_succ, List.getElem_cons_zero, List.setIfInBounds_toArray, List.set_cons_zero, List.set_cons_succ]
                refine wpAnyH_ready (rs := [15]) (by kernel_rfl) (by simp) ?_
                refine AllReadyH.cons rfl (fun K hK => ?_) (AllReadyH.nil)
                · skip
                  go_simp
                  (go_at_call 24; go_loud (with_reducible refine (HD.out _ _ _ hn9.own.rb).mono ?_); rintro e6 w6 ⟨A6, c6, es6, rfl, hL6, he6, hb6⟩)
                  dsimp only
                  have R_11 := R_10.new hb6
                  refine hK.out _ _ (below_then H_10 hb6) (fun H_11 => ?_)
                  clear hK K
                  try simp only [Act.put, List.getElem_toArray, List.getElem_cons_succ, List.getElem_cons_zero, List.setIfInBounds_toArray, List.set_cons_zero, List.set_cons_succ]
                  refine wpAnyH_take (i := 16) (v := .tuple #[.agg #[.int .u64 h.n, .int .u64 h.ep, .int .u64 h.f, .int .i64 h.w, .slice A6 k c6, .int .i64 u], .int .i64 (0 : Nat)]) rfl (by kernel_rfl) (by kernel_rfl) (by kernel_rfl) (fun _ _ _ h => h) (Or.inl ⟨by rfl, fun w hS => by go_simp⟩) (by assumption) ?_
                  try simp only [Act.put, List.getElem_toArray, List.getElem_cons_succ, List.getElem_cons_zero, List.setIfInBounds_toArray, List.set_cons_zero, List.set_cons_succ]
                  refine wpAnyH_take (i := 17) (v := .agg #[.int .u64 h.n, .int .u64 h.ep, .int .u64 h.f, .int .i64 h.w, .slice A6 k c6, .int .i64 u]) rfl (by kernel_rfl) (by kernel_rfl) (by kernel_rfl) (fun _ _ _ h => h) (Or.inl ⟨by rfl, fun w hS => by go_simp⟩) (by assumption) ?_
                  try simp only [Act.put, List.getElem_toArray, List.getElem_cons_succ, List.getElem_cons_zero, List.setIfInBounds_toArray, List.set_cons_zero, List.set_cons_succ]
                  refine wpAnyH_take (i := 18) (v := .int .i64 (0 : Nat)) rfl (by kernel_rfl) (by kernel_rfl) (by kernel_rfl) (fun _ _ _ h => h) (Or.inl ⟨by rfl, fun w hS => by go_simp⟩) (by assumption) ?_
                  try simp only [Act.put, List.getElem_toArray, List.getElem_cons_succ, List.getElem_cons_zero, List.setIfInBounds_toArray, List.set_cons_zero, List.set_cons_succ]
                  refine wpAnyH_ready (rs := [20]) (by kernel_rfl) (by simp) ?_
                  refine AllReadyH.cons rfl (fun K hK => ?_) (AllReadyH.nil)
                  · skip
                    go_simp
                    have r0 := R_11.c 0 _ rfl; have f0 := R_11.fz 0
                    have r1 := R_11.c 1 _ rfl; have f1 := R_11.fz 1
                    have r2 := R_11.c 2 _ rfl; have f2 := R_11.fz 2
                    have r3 := R_11.c 3 _ rfl; have f3 := R_11.fz 3
                    have r4 := R_11.c 4 _ rfl; have f4 := R_11.fz 4
                    have r5 := R_11.c 5 _ rfl; have f5 := R_11.fz 5
                    go_simp
                    refine hK.out _ _ (below_put6 H_11 (H_1.size) _ _ _ _ _ _) (fun H_12 => ?_)
                    clear hK K
                    try simp only [Act.put, List.getElem_toArray, List.getElem_cons_succ, List.getElem_cons_zero, List.setIfInBounds_toArray, List.set_cons_zero, List.set_cons_succ]
                    refine wpAnyH_take (i := 21) (v := .int .i64 (0 : Nat)) rfl (by kernel_rfl) (by kernel_rfl) (by kernel_rfl) (fun _ _ _ h => h) (Or.inl ⟨by rfl, fun w hS => by go_simp⟩) (by assumption) ?_
                    try simp only [Act.put, List.getElem_toArray, List.getElem_cons_succ, List.getElem_cons_zero, List.setIfInBounds_toArray, List.set_cons_zero, List.set_cons_succ]
                    refine wpAnyH_done (by kernel_rfl) ?_ _
                    go_wp2_with fail
                    go_meet
                    exact ⟨_, A6, c6, es6, rfl, rfl, R_11.put6 _ _ _ _ _ _, torn_end hL6 (Below.refl w6.heap.size w6) (.inl (Nat.lt_succ_of_lt R_10.lt)), he6, below_put6 H_11 (Nat.le_trans (Nat.le_refl _) H_1.size) _ _ _ _ _ _⟩
          · skip
            go_simp
            have R_13 := Row.fresh wd wd.heap.size rfl 51 [.int .u64 0, .int .u64 0, .int .u64 0, .int .i64 0, .slice none 0 0, .int .i64 0] #[.int .u64 0, .int .u64 0, .int .u64 0, .int .i64 0, .slice none 0 0, .int .i64 0] rfl
            refine hK.out _ _ (below_then hHeld (Bl.alloc wd (.cells #[.int .u64 0, .int .u64 0, .int .u64 0, .int .i64 0, .slice none 0 0, .int .i64 0] 51))) (fun H_13 => ?_)
            generalize (wd.alloc (.cells #[.int .u64 0, .int .u64 0, .int .u64 0, .int .i64 0, .slice none 0 0, .int .i64 0] 51)) = wa at H_13 R_13 ⊢
            clear hK K
            try simp only [Act.put, List.getElem_toArray, List.getElem_cons_succ, List.getElem_cons_zero, List.setIfInBounds_toArray, List.set_cons_zero, List.set_cons_succ]
            refine wpAnyH_ready (rs := [13]) (by kernel_rfl) (by simp) ?_
            refine AllReadyH.cons rfl (fun K hK => ?_) (AllReadyH.nil)
            · skip
              go_simp
              (go_at_call 30; go_loud (with_reducible refine (joinN A8 (cutA A1 u c1) _ _ _ nq (m - u) (nq + (m - u)) c8 (c1 - u) _ (HQR.out.new H_13) (HPD.out.new H_13) HNQ.out HDL.out (by rw [← HNQ.out, ← HDL.out]) rfl (by rw [← HNQ.out, ← HDL.out]; omega)).mono ?_); rintro e5 w5 ⟨A5, c5, rfl, hn5⟩)
              dsimp only
              have R_14 := R_13.new hn5.below
              refine hK.out _ _ (below_then H_13 hn5.below) (fun H_14 => ?_)
              clear hK K
              try simp only [Act.put, List.getElem_toArray, List.getElem_cons_succ, List.getElem_cons_zero, List.setIfInBounds_toArray, List.set_cons_zero, List.set_cons_succ]
              refine wpAnyH_ready (rs := [14]) (by kernel_rfl) (by simp) ?_
              refine AllReadyH.cons rfl (fun K hK => ?_) (AllReadyH.nil)
              · skip
                go_simp
                (go_at_call 30; go_loud (with_reducible refine (joinN A1 A5 _ _ _ u (nq + (m - u)) ln c1 c5 _ (HPT.out.new H_14) hn5.own.rb HTL.out (by rw [List.length_append, ← HNQ.out, ← HDL.out]) (by rw [List.length_append, ← HTL.out, ← HNQ.out, ← HDL.out]; exact HLN.out) rfl (by rw [List.length_append, ← HTL.out, ← HNQ.out, ← HDL.out]; omega)).mono ?_); rintro e9 w9 ⟨A9, c9, rfl, hn9⟩)
                dsimp only
                have R_15 := R_14.new hn9.below
                refine hK.out _ _ (below_then H_14 hn9.below) (fun H_15 => ?_)
                clear hK K
                try simp only [Act.put, List.getElem_toArray, List.getElem_cons_succ, List.getElem_cons_zero, List.setIfInBounds_toArray, List.set_cons_zero, List.set_cons_succ]
                refine wpAnyH_ready (rs := [15]) (by kernel_rfl) (by simp) ?_
                refine AllReadyH.cons rfl (fun K hK => ?_) (AllReadyH.nil)
                · skip
                  go_simp
                  (go_at_call 24; go_loud (with_reducible refine (HD.out _ _ _ hn9.own.rb).mono ?_); rintro e6 w6 ⟨A6, c6, es6, rfl, hL6, he6, hb6⟩)
                  dsimp only
                  have R_16 := R_15.new hb6
                  refine hK.out _ _ (below_then H_15 hb6) (fun H_16 => ?_)
                  clear hK K
                  try simp only [Act.put, List.getElem_toArray, List.getElem_cons_succ, List.getElem_cons_zero, List.setIfInBounds_toArray, List.set_cons_zero, List.set_cons_succ]
                  refine wpAnyH_take (i := 16) (v := .tuple #[.agg #[.int .u64 h.n, .int .u64 h.ep, .int .u64 h.f, .int .i64 h.w, .slice A6 k c6, .int .i64 u], .int .i64 (0 : Nat)]) rfl (by kernel_rfl) (by kernel_rfl) (by kernel_rfl) (fun _ _ _ h => h) (Or.inl ⟨by rfl, fun w hS => by go_simp⟩) (by assumption) ?_
                  try simp only [Act.put, List.getElem_toArray, List.getElem_cons_succ, List.getElem_cons_zero, List.setIfInBounds_toArray, List.set_cons_zero, List.set_cons_succ]
                  refine wpAnyH_take (i := 17) (v := .agg #[.int .u64 h.n, .int .u64 h.ep, .int .u64 h.f, .int .i64 h.w, .slice A6 k c6, .int .i64 u]) rfl (by kernel_rfl) (by kernel_rfl) (by kernel_rfl) (fun _ _ _ h => h) (Or.inl ⟨by rfl, fun w hS => by go_simp⟩) (by assumption) ?_
                  try simp only [Act.put, List.getElem_toArray, List.getElem_cons_succ, List.getElem_cons_zero, List.setIfInBounds_toArray, List.set_cons_zero, List.set_cons_succ]
                  refine wpAnyH_take (i := 18) (v := .int .i64 (0 : Nat)) rfl (by kernel_rfl) (by kernel_rfl) (by kernel_rfl) (fun _ _ _ h => h) (Or.inl ⟨by rfl, fun w hS => by go_simp⟩) (by assumption) ?_
                  try simp only [Act.put, List.getElem_toArray, List.getElem_cons_succ, List.getElem_cons_zero, List.setIfInBounds_toArray, List.set_cons_zero, List.set_cons_succ]
                  refine wpAnyH_ready (rs := [20]) (by kernel_rfl) (by simp) ?_
                  refine AllReadyH.cons rfl (fun K hK => ?_) (AllReadyH.nil)
                  · skip
                    go_simp
                    have r0 := R_16.c 0 _ rfl; have f0 := R_16.fz 0
                    have r1 := R_16.c 1 _ rfl; have f1 := R_16.fz 1
                    have r2 := R_16.c 2 _ rfl; have f2 := R_16.fz 2
                    have r3 := R_16.c 3 _ rfl; have f3 := R_16.fz 3
                    have r4 := R_16.c 4 _ rfl; have f4 := R_16.fz 4
                    have r5 := R_16.c 5 _ rfl; have f5 := R_16.fz 5
                    go_simp
                    refine hK.out _ _ (below_put6 H_16 (hHeld.size) _ _ _ _ _ _) (fun H_17 => ?_)
                    clear hK K
                    try simp only [Act.put, List.getElem_toArray, List.getElem_cons_succ, List.getElem_cons_zero, List.setIfInBounds_toArray, List.set_cons_zero, List.set_cons_succ]
                    refine wpAnyH_take (i := 21) (v := .int .i64 (0 : Nat)) rfl (by kernel_rfl) (by kernel_rfl) (by kernel_rfl) (fun _ _ _ h => h) (Or.inl ⟨by rfl, fun w hS => by go_simp⟩) (by assumption) ?_
                    try simp only [Act.put, List.getElem_toArray, List.getElem_cons_succ, List.getElem_cons_zero, List.setIfInBounds_toArray, List.set_cons_zero, List.set_cons_succ]
                    refine wpAnyH_done (by kernel_rfl) ?_ _
                    go_wp2_with fail
                    go_meet
                    exact ⟨_, A6, c6, es6, rfl, rfl, R_16.put6 _ _ _ _ _ _, torn_end hL6 (Below.refl w6.heap.size w6) (.inl (Nat.lt_succ_of_lt R_15.lt)), he6, below_put6 H_16 (Nat.le_trans (Nat.le_refl _) hHeld.size) _ _ _ _ _ _⟩
        case rest =>
          obtain ⟨g, A6, c6, es6, rfl, rfl, RS, ⟨bS, LS6⟩, he6, hb6⟩ := hcut
          obtain ⟨wX, hwX⟩ : ∃ x, x = wc := ⟨_, rfl⟩
          subst hwX
          have HB6 := Lib.hid (below_then HB4.out hb6)
          have HDS2 := Lib.hid (HDS.out.new HB6.out)
          have HFS : Hid ((es6.map BtV.view).map BvV.fst = (ds.map BvV.fst).take k) := Lib.hid (by
            rw [view_fst, he6, HDF.out]
            exact ixB_take (consOf bs) h.f k)
          have HLE : Hid (∀ b ∈ es6.map BtV.view, b.es.length ≤ 9223372036854775807) := Lib.hid (readF_lens _ (es6.map BtV.view) (by rw [view_fst, he6, HGR.out (by trivial)]))
          have HLN6 : Hid (k = (es6.map BtV.view).length) := Lib.hid (by rw [List.length_map]; have := congrArg List.length he6; rw [List.length_map, ixB_length, List.length_take, ← HCL.out] at this; omega)
          have HV := Lib.hid LS6.view
          have HCJ := Lib.hid ((hb6.cell (World.block_lt_of_cell? _ _ HCU.out)).trans HCU.out)
          have R6 := R2.out.new HB6.out
          have r0 := RS.c 0 _ rfl
          have r1 := RS.c 1 _ rfl
          have r2 := RS.c 2 _ rfl
          have r3 := RS.c 3 _ rfl
          have r4 := RS.c 4 _ rfl
          have r5 := RS.c 5 _ rfl
          have x0 := R6.c 0 _ rfl
          have x1 := R6.c 1 _ rfl
          have x2 := R6.c 2 _ rfl
          have x3 := R6.c 3 _ rfl
          clear he6 hb6 RS R6 LS6 l0 l1
          go_wp2_with (go_at_call 29; go_loud (with_reducible refine (begins_calls h.n h.ep h.f h.w _ k n (n + 1) A6 (some ad) (some a3) c6 c2 c3 (es6.map BtV.view) ds _ HV.out HDS2.out HLN6.out HFS.out (Nat.le_of_lt hkn) HDN.out (by omega) HLE.out a3 rfl HCJ.out (by omega)).mono ?_); rintro r7 w7 ⟨rfl, hb7⟩)
          go_ret
          exact ⟨rfl, below_then B2.out (below_then HB6.out hb7)⟩
      · have h8b : ((e8 : Int) != 0) = true := by rw [bne_iff_ne]; omega
        go_wp2_with (first
          | (go_at_call 21; go_loud (with_reducible refine (twinB_calls df dA des nd dc _ HDE.out HND.out (by omega) HSM.out).mono ?_); rintro r3 w3 ⟨A3', c3', es3, rfl, hl3, he3, hb3⟩; have T3 := Duo.fresh w3 w3.heap.size rfl (.int .u64 df) (.slice A3' nd c3') 35; have n3 : Below w3.heap.size w3 (w3.alloc (.cells #[.int .u64 ix, .slice A3' nd c3'] 35)) := Bl.alloc _ _; have L3 := Lib.hid (hl3.reads.new n3); have E3 := Lib.hid he3; have Q3 := Lib.hid hl3.len; have t0 := T3.c0; have t1 := T3.c1; have f0 := T3.fz 0; have HB3 := Lib.hid (below_then hb3 n3); clear T3 hl3 he3 hb3 n3)
          | (go_at_call 20; go_loud (with_reducible refine (segBatch_calls ix _ rfl hix64 A3' nd c3' es3 _ L3.out Q3.out (by omega) q _ (by rw [E3.out]; exact HQ.out) nq HNQ.out).mono ?_); rintro r4 w4 ⟨A8, c8, rfl, hn4⟩; have HB4 := Lib.hid (below_then HB3.out hn4.below); have HQR := Lib.hid hn4.own.rb; clear t0 t1 f0 hn4))
        go_ret
        exact ⟨rfl, below_then B2.out HB4.out⟩
    · have HG := Lib.hid hg
      clear hg
      by_cases g1 : kk < 0
      · go_wp2
        go_ret
        exact ⟨rfl, B2.out⟩
      · by_cases g2 : (n : Int) ≤ kk
        · go_wp2
          go_ret
          exact ⟨rfl, B2.out⟩
        · by_cases g3 : gap = 0
          · subst g3
            go_wp2
            go_ret
            exact ⟨rfl, B2.out⟩
          · have g4 : (40000 : Int) < m := by have := HG.out; omega
            have g5 : 40000 < m := by omega
            have d3 : ((gap : Int) == 0) = false := by rw [beq_eq_false_iff_ne]; omega
            go_wp2
            go_ret
            exact ⟨rfl, B2.out⟩
theorem segmentGap_calls (N E F X G : Int) (hN : 0 ≤ N ∧ N ≤ 18446744073709551615) (hE : 0 ≤ E ∧ E ≤ 18446744073709551615) (hF : 0 ≤ F ∧ F ≤ 18446744073709551615) (hG : 0 ≤ G ∧ G ≤ 18446744073709551615) (A : Option Addr) (bs : List BvV) (n c : Nat) (w : World) (hL : Laid8 w) (hB : Bats w A bs) (hn : n = bs.length) (hl : n ≤ 1048576) (hs : ∀ b ∈ bs, b.es.length * 56 ≤ 140737488355328 ∧ SmallEs b.es) (kk : Int) :
    Calls Tryz.prog 8 #[.agg #[.int .u64 N, .int .u64 E, .int .u64 F, .int .i64 X], .slice A n c, .int .u64 G, .int .i64 kk] w fun r w' => r = .returned (.bool true) ∧ Below w.heap.size w w' := by
  obtain ⟨k, rfl⟩ := Int.eq_ofNat_of_zero_le hN.1
  obtain ⟨ep, rfl⟩ := Int.eq_ofNat_of_zero_le hE.1
  obtain ⟨fi, rfl⟩ := Int.eq_ofNat_of_zero_le hF.1
  obtain ⟨gap, rfl⟩ := Int.eq_ofNat_of_zero_le hG.1
  by_cases hx : 1 ≤ X ∧ X ≤ 32
  · obtain ⟨x, rfl⟩ := Int.eq_ofNat_of_zero_le (show 0 ≤ X by omega)
    exact segmentGap_yes ⟨k, ep, fi, x⟩ ⟨by show k ≤ 18446744073709551615; omega, by show ep ≤ 18446744073709551615; omega, by show fi ≤ 18446744073709551615; omega, by show 1 ≤ x; omega, by show x ≤ 32; omega⟩ A bs n c w hL hB hn hl hs gap (by omega) kk
  · exact segmentGap_no k ep fi X hx (by omega) (by omega) (by omega) A n c _ _ w hL
end Go.Proofs.YtpmnnnbkbcpgjaaGreatDoor
