import Derived.Test.YtpmnnnbkbcpgjaaGreatDoorQSegmentThere
import Derived.Test.YtpmnnnbkbcpgjaaGreatDoorQSegTornMath
import Derived.Test.YtpmnnnbkbcpgjaaGreatDoorQWireCut
/- The walk of notarylaw08.SegmentTorn. -/
namespace Go.Proofs.YtpmnnnbkbcpgjaaGreatDoor
open Go.RowKit
attribute [local go_sem ↓] Go.wp_at_zero Go.wp_at_succ

section
variable {P : Program} {t e : TypeId} {w : World} {ops : Array Oper} {o : Oper} {a : Act} {Q : Exit → Act → World → Prop}
/-- make([]byte, n), as one step of a region that draws -/
theorem step_makeB8 {K : Act → World → Prop} {E : Prop} (bt : ByteT P t e) (hg : o.guard = none) (l c : Operand) (hop : o.op = Op.makeSlice t l c) (kl kc : IntKind) (L C : Int) (n : Nat) (hl : a.eval l = .int kl L) (hc : a.eval c = .int kc C) (hL : L = n) (hC : C = n) (hn : n ≤ 281474976710656) (base : Nat) (hbase : base ≤ w.heap.size)
    (h : ∀ w', OB w' base e (.slice (some ⟨w.heap.size, 0, none⟩) n n) (List.replicate n 0) → Below w.heap.size w w' → w'.heap.size = w'.heap.size → K (a.put o.dst (.slice (some ⟨w.heap.size, 0, none⟩) n n)) w') :
    if Region.wanted o (yielded ops a.tmps) = true then Oper.wp P o a w K Q else E := by
  have hw : Region.wanted o (yielded ops a.tmps) = true := by simp [Region.wanted, hg]
  rw [if_pos hw]
  obtain ⟨i, hi, hz, hs, hb⟩ := info_parts bt.info
  obtain ⟨w', hrun, r1, r2⟩ := run_make_full (P := P) w base t e i (.int .u8 0) 1 bt.sl hi hz hs kl kc n (by rw [hb]; omega) (by unfold maxLen; omega) hbase
  subst hL
  subst hC
  unfold Oper.wp
  simp [execOp, hop, hl, hc, hrun, Result.andThen]
  refine h w' ⟨?_⟩ ⟨r2.os, r2.tape, r2.output, r2.size, fun k hk => r2.block k hk (by simp)⟩ rfl
  have e1 : (madeCells (Value.int .u8 0).cells (n * 1)).toList = encB (List.replicate n 0) := by
    rw [Nat.mul_one]
    apply List.ext_getElem
    · simp [madeCells, encB]
    · intro j h1 h2
      simp [madeCells, encB, Value.cells, uB, Nat.mod_one]
  rw [e1] at r1
  simpa using r1
end
set_option maxHeartbeats 400000 in
set_option maxRecDepth 100000 in
theorem segmentTorn_no (k ep fi : Nat) (x : Int) (hx : ¬ (1 ≤ x ∧ x ≤ 32)) (hk : k ≤ 18446744073709551615) (hep : ep ≤ 18446744073709551615) (hfi : fi ≤ 18446744073709551615) (A : Option Addr) (n c : Nat) (x2 x3 : Value) (w : World) (hL : Laid8 w) :
    Calls Tryz.prog 7 #[.agg #[.int .u64 k, .int .u64 ep, .int .u64 fi, .int .i64 x], .slice A n c, x2, x3] w fun r w' => r = .returned (.bool true) ∧ Below w.heap.size w w' := by
  have R0 := Row.fresh w w.heap.size rfl 32 [.int .u64 k, .int .u64 ep, .int .u64 fi, .int .i64 x] #[.int .u64 k, .int .u64 ep, .int .u64 fi, .int .i64 x] rfl
  have HR := Lib.hid R0
  have HB := Lib.hid (below_alloc1 (Below.refl w.heap.size w) (Nat.le_refl _) (.cells #[.int .u64 k, .int .u64 ep, .int .u64 fi, .int .i64 x] 32))
  have HL := Lib.hid (hL.below HB.out)
  have HX := Lib.hid hx
  clear hx R0 hL
  go_enter Tryz.func7, Tryz.ntmps7
  go_wp2_with (first
    | (go_at_call 12; go_loud (with_reducible refine (awake8_calls _ HL.out).mono ?_); rintro r1 w1 ⟨rfl, hb1⟩; have B1 := Lib.hid (below_then HB.out hb1); have R1 := HR.out.new hb1; have x0 := R1.c 0 _ rfl; have x1 := R1.c 1 _ rfl; have x2 := R1.c 2 _ rfl; have x3 := R1.c 3 _ rfl; clear R1)
    | (go_at_call 28; go_loud (with_reducible refine (laid_no k ep fi x HX.out hk hep hfi A n c _).mono ?_); rintro r2 w2 ⟨rfl, hb2⟩; have B2 := Lib.hid (below_then B1.out hb2)))
  go_ret
  exact ⟨rfl, B2.out⟩
theorem addr_plus (a : Addr) (i : Nat) : a.add (i + 1) = ⟨a.block, a.off + (i + 1), none⟩ := by
  unfold Addr.add
  rw [if_neg (Nat.succ_ne_zero i)]
theorem ixB_take : ∀ (ls : List (List En)) (f j : Nat), ixB f (ls.take j) = (ixB f ls).take j
  | [], f, j => by simp [ixB]
  | l :: ls, f, 0 => by simp [ixB]
  | l :: ls, f, j + 1 => by simp [ixB, ixB_take ls]
theorem torn_k (f : Nat) (ls : List (List En)) (ct : Nat) : ∀ d m, m + d = ls.length → endN f ls m ≤ ct → ∃ k, k ≤ ls.length ∧ endN f ls k ≤ ct ∧ (k = ls.length ∨ ct < endN f ls (k + 1))
  | 0, m, e, h => ⟨m, by omega, h, .inl (by omega)⟩
  | d + 1, m, e, h => if h2 : endN f ls (m + 1) ≤ ct then torn_k f ls ct d (m + 1) (by omega) h2 else ⟨m, by omega, h, .inr (by omega)⟩
theorem torn_end {w7 X : World} {g base n c : Nat} {A : Option Addr} {es : List BtV} {x0 x1 x2 x3 x4 x5 : Value} (hL : BL w7 base (.slice A n c) es) (h7 : Below w7.heap.size w7 X) (hg : g < base ∨ w7.heap.size ≤ g) : ∃ b, BL (put6 X g x0 x1 x2 x3 x4 x5) b (.slice A n c) es :=
  ⟨base, hL.keep (fun k h1 h2 => ((put6_keep X g x0 x1 x2 x3 x4 x5).block k (Nat.lt_of_lt_of_le h2 h7.size) (fun e => by have := Option.some.inj e; omega)).trans (h7.block k h2)) (Nat.le_trans h7.size (put6_keep X g x0 x1 x2 x3 x4 x5).size)⟩
set_option maxHeartbeats 1000000 in
set_option maxRecDepth 100000 in
theorem segmentTorn_yes (h : HdV) (hH : HdOk h) (A : Option Addr) (bs : List BvV) (n c : Nat) (w : World) (hL : Laid8 w) (hB : Bats w A bs) (hn : n = bs.length) (hl : n ≤ 1048576) (hs : ∀ b ∈ bs, b.es.length * 56 ≤ 140737488355328 ∧ SmallEs b.es) (cut z : Int) :
    Calls Tryz.prog 7 #[.agg #[.int .u64 h.n, .int .u64 h.ep, .int .u64 h.f, .int .i64 h.w], .slice A n c, .int .i64 cut, .int .i64 z] w fun r w' => r = .returned (.bool true) ∧ Below w.heap.size w w' := by
  have R0 := Row.fresh w w.heap.size rfl 32 [.int .u64 h.n, .int .u64 h.ep, .int .u64 h.f, .int .i64 h.w] #[.int .u64 h.n, .int .u64 h.ep, .int .u64 h.f, .int .i64 h.w] rfl
  have HR := Lib.hid R0
  have HB := Lib.hid (below_alloc1 (Below.refl w.heap.size w) (Nat.le_refl _) (.cells #[.int .u64 h.n, .int .u64 h.ep, .int .u64 h.f, .int .i64 h.w] 32))
  have HL := Lib.hid (hL.below HB.out)
  have HH := Lib.hid hH
  have HBT := Lib.hid hB
  have HN := Lib.hid hn
  have HS := Lib.hid hs
  have hfs := frB_small (consOf bs) h.f
  clear R0 hL hH hB hn hs
  go_enter Tryz.func7, Tryz.ntmps7
  go_wp2_with (first
    | (go_at_call 12; go_loud (with_reducible refine (awake8_calls _ HL.out).mono ?_); rintro x1 w1 ⟨rfl, hb1⟩; have B1 := Lib.hid (below_then HB.out hb1); have R1 := HR.out.new hb1; have x0 := R1.c 0 _ rfl; have x1 := R1.c 1 _ rfl; have x2 := R1.c 2 _ rfl; have x3 := R1.c 3 _ rfl; have R1 := Lib.hid R1))
  go_at_call 28
  with_reducible refine (laid_yes h HH.out A bs n c _ (HBT.out.new B1.out) HN.out hl HS.out).mono ?_
  rintro x2 w2 ⟨hb2, rfl | ⟨A1, c1, A2, c2, A3, c3, m, rfl, hm, hok⟩⟩
  · have B2 := Lib.hid (below_then B1.out hb2)
    go_wp2
    go_ret
    exact ⟨rfl, B2.out⟩
  · have B2 := Lib.hid (below_then B1.out hb2)
    have R2 := R1.out.new hb2
    have x0 := R2.c 0 _ rfl
    have x1 := R2.c 1 _ rfl
    have x2 := R2.c 2 _ rfl
    have x3 := R2.c 3 _ rfl
    have R2 := Lib.hid R2
    have hcl : n = (consOf bs).length := by rw [consOf_length]; exact HN.out
    have hm2 := hm
    rw [laidL_length] at hm2
    have hm6 : m ≤ 22923968560 := by
      have := hfs hok.bs
      have : 21862 * (consOf bs).length ≤ 21862 * 1048576 := Nat.mul_le_mul_left _ (by omega)
      omega
    have HM := Lib.hid hm
    have HM2 := Lib.hid hm2
    have HCL := Lib.hid hcl
    have HOKT := Lib.hid hok
    clear hm hm2 hcl hok hfs
    by_cases hg : 0 ≤ cut ∧ cut ≤ m ∧ 0 ≤ z ∧ z ≤ 5000
    · obtain ⟨ct, rfl⟩ := Int.eq_ofNat_of_zero_le hg.1
      obtain ⟨zn, rfl⟩ := Int.eq_ofNat_of_zero_le hg.2.2.1
      have hct : ct ≤ m := by omega
      have hzn : zn ≤ 5000 := by omega
      obtain ⟨s, hsx⟩ : ∃ s, readF ((headL h ++ frB h.f (consOf bs)).take ct ++ List.replicate zn 0) = s := ⟨_, rfl⟩
      obtain ⟨nb, hnb⟩ : ∃ nb, nb = s.bs.length := ⟨_, rfl⟩
      obtain ⟨ln, hln⟩ : ∃ ln, ln = ct + zn := ⟨_, rfl⟩
      have hX : ((headL h ++ frB h.f (consOf bs)).take ct ++ List.replicate zn (0 : UInt8)).length = ln := by
        rw [List.length_append, List.length_take, List.length_replicate, ← HM.out, hln]; omega
      have HD : Hid (∀ (A : Option Addr) (c : Nat) (w : World), RB w A c ((headL h ++ frB h.f (consOf bs)).take ct ++ List.replicate zn 0) → Calls Tryz.prog 24 #[.slice A ln c] w fun r w' => ∃ A' c' es, r = .returned (.tuple #[.agg #[.int .u64 s.h.n, .int .u64 s.h.ep, .int .u64 s.h.f, .int .i64 s.h.w, .slice A' nb c', .int .i64 s.used], .int .i64 s.e]) ∧ BL w' (w.heap.size + 1) (.slice A' nb c') es ∧ es.map BtV.fst = s.bs ∧ Below w.heap.size w w') := Lib.hid fun A c w hp => by
        have := segReadB8 _ s hsx (by rw [hX]; omega) nb hnb A c w hp
        rw [hX] at this
        exact this.mono fun r w' ⟨A', c', es, h1, h2, h3, _, h4⟩ => ⟨A', c', es, h1, h2, h3, h4⟩
      have HSX := Lib.hid hsx
      have HNB := Lib.hid hnb
      have HLN := Lib.hid hln
      have HX := Lib.hid hX
      have hcut := fun w' : World => run_cut_h w' A1 m c1 ct ct rfl (by have := HOKT.out.rb.len; rw [← HM.out] at this; omega)
      have d1 : decide ((ct : Int) < 0) = false := by simp
      have d2 : decide ((zn : Int) < 0) = false := by simp
      have d4 : decide (m < ct) = false := by simp; omega
      have d5 : ¬ m < ct := by omega
      have d3 : decide ((5000 : Int) < (zn : Int)) = false := by simp; omega
      clear hsx hnb hln hX hg
      go_upto_region 6 with fail
      go_cut [13, 14] from 46 (fun s13 s14 wx => ∃ (g : Nat) (A6 : Option Addr) (c6 : Nat) (es6 : List BtV), s13 = .pointer (some ⟨g, 0, none⟩) ∧ s14 = .int .i64 s.e ∧ Row wx g 51 [.int .u64 s.h.n, .int .u64 s.h.ep, .int .u64 s.h.f, .int .i64 s.h.w, .slice A6 nb c6, .int .i64 s.used] ∧ (∃ base, BL wx base (.slice A6 nb c6) es6) ∧ es6.map BtV.fst = s.bs ∧ Below w2.heap.size w2 wx)
      case first =>
        -- region 6
        refine wp_region_held_drew (S := fun w' => Below w2.heap.size w2 w') (by kernel_rfl) (Bl.drew _) (fun hHeld => ?_)
        generalize w2.drew = wd at hHeld ⊢
        refine wpAnyH_take (i := 0) (v := .slice A1 m c1) rfl (by kernel_rfl) (by kernel_rfl) (by kernel_rfl) (fun _ _ _ h => h) (Or.inl ⟨by rfl, fun w hS => by go_simp⟩) (by assumption) ?_
        try simp only [Act.put, List.getElem_toArray, List.getElem_cons_succ, List.getElem_cons_zero, List.setIfInBounds_toArray, List.set_cons_zero, List.set_cons_succ]
        refine wpAnyH_take (i := 1) (v := .int .i64 ct) rfl (by kernel_rfl) (by kernel_rfl) (by kernel_rfl) (fun _ _ _ h => h) (Or.inl ⟨by rfl, fun w hS => by go_simp⟩) (by assumption) ?_
        try simp only [Act.put, List.getElem_toArray, List.getElem_cons_succ, List.getElem_cons_zero, List.setIfInBounds_toArray, List.set_cons_zero, List.set_cons_succ]
        refine wpAnyH_take (i := 2) (v := .slice A1 ct c1) rfl (by kernel_rfl) (by kernel_rfl) (by kernel_rfl) (fun _ _ _ h => h) (Or.inl ⟨by rfl, fun w hS => by go_simp⟩) (by assumption) ?_
        try simp only [Act.put, List.getElem_toArray, List.getElem_cons_succ, List.getElem_cons_zero, List.setIfInBounds_toArray, List.set_cons_zero, List.set_cons_succ]
        refine wpAnyH_take (i := 3) (v := .int .i64 zn) rfl (by kernel_rfl) (by kernel_rfl) (by kernel_rfl) (fun _ _ _ h => h) (Or.inl ⟨by rfl, fun w hS => by go_simp⟩) (by assumption) ?_
        try simp only [Act.put, List.getElem_toArray, List.getElem_cons_succ, List.getElem_cons_zero, List.setIfInBounds_toArray, List.set_cons_zero, List.set_cons_succ]
        refine wpAnyH_ready (rs := [4, 10]) (by kernel_rfl) (by simp) ?_
        refine AllReadyH.cons rfl (fun K hK => ?_) (AllReadyH.cons rfl (fun K hK => ?_) (AllReadyH.nil))
        · skip
          refine step_makeB8 bt rfl _ _ rfl .i64 .i64 zn zn zn rfl rfl rfl rfl (by omega) wd.heap.size (Nat.le_refl _) (fun wM hoM hbM _ => ?_)
          refine hK.out _ _ (below_then hHeld hbM) (fun H_1 => ?_)
          clear hK K
          try simp only [Act.put, List.getElem_toArray, List.getElem_cons_succ, List.getElem_cons_zero, List.setIfInBounds_toArray, List.set_cons_zero, List.set_cons_succ]
          refine wpAnyH_ready (rs := [5, 10]) (by kernel_rfl) (by simp) ?_
          refine AllReadyH.cons rfl (fun K hK => ?_) (AllReadyH.cons rfl (fun K hK => ?_) (AllReadyH.nil))
          · skip
            go_simp
            (go_at_call 30; go_loud (with_reducible refine (joinN A1 _ _ _ _ ct zn ln c1 _ _ ((HOKT.out.rb.take ct).new H_1) hoM.rb (by rw [List.length_take, ← HM.out]; omega) (by rw [List.length_replicate]) (by rw [List.length_take, List.length_replicate, ← HM.out, HLN.out]; omega) rfl (by rw [List.length_take, List.length_replicate, ← HM.out]; omega)).mono ?_); rintro e5 w5 ⟨A5, c5, rfl, hn5⟩)
            dsimp only
            have M_2 := (hoM.rb).new hn5.below
            refine hK.out _ _ (below_then H_1 hn5.below) (fun H_2 => ?_)
            clear hK K
            try simp only [Act.put, List.getElem_toArray, List.getElem_cons_succ, List.getElem_cons_zero, List.setIfInBounds_toArray, List.set_cons_zero, List.set_cons_succ]
            refine wpAnyH_ready (rs := [6, 10]) (by kernel_rfl) (by simp) ?_
            refine AllReadyH.cons rfl (fun K hK => ?_) (AllReadyH.cons rfl (fun K hK => ?_) (AllReadyH.nil))
            · skip
              go_simp
              (go_at_call 24; go_loud (with_reducible refine (HD.out _ _ _ hn5.own.rb).mono ?_); rintro e6 w6 ⟨A6, c6, es6, rfl, hL6, he6, hb6⟩)
              dsimp only
              have M_3 := (M_2).new hb6
              refine hK.out _ _ (below_then H_2 hb6) (fun H_3 => ?_)
              clear hK K
              try simp only [Act.put, List.getElem_toArray, List.getElem_cons_succ, List.getElem_cons_zero, List.setIfInBounds_toArray, List.set_cons_zero, List.set_cons_succ]
              refine wpAnyH_take (i := 7) (v := .tuple #[.agg #[.int .u64 s.h.n, .int .u64 s.h.ep, .int .u64 s.h.f, .int .i64 s.h.w, .slice A6 nb c6, .int .i64 s.used], .int .i64 s.e]) rfl (by kernel_rfl) (by kernel_rfl) (by kernel_rfl) (fun _ _ _ h => h) (Or.inl ⟨by rfl, fun w hS => by go_simp⟩) (by assumption) ?_
              try simp only [Act.put, List.getElem_toArray, List.getElem_cons_succ, List.getElem_cons_zero, List.setIfInBounds_toArray, List.set_cons_zero, List.set_cons_succ]
              refine wpAnyH_take (i := 8) (v := .agg #[.int .u64 s.h.n, .int .u64 s.h.ep, .int .u64 s.h.f, .int .i64 s.h.w, .slice A6 nb c6, .int .i64 s.used]) rfl (by kernel_rfl) (by kernel_rfl) (by kernel_rfl) (fun _ _ _ h => h) (Or.inl ⟨by rfl, fun w hS => by go_simp⟩) (by assumption) ?_
              try simp only [Act.put, List.getElem_toArray, List.getElem_cons_succ, List.getElem_cons_zero, List.setIfInBounds_toArray, List.set_cons_zero, List.set_cons_succ]
              refine wpAnyH_take (i := 9) (v := .int .i64 s.e) rfl (by kernel_rfl) (by kernel_rfl) (by kernel_rfl) (fun _ _ _ h => h) (Or.inl ⟨by rfl, fun w hS => by go_simp⟩) (by assumption) ?_
              try simp only [Act.put, List.getElem_toArray, List.getElem_cons_succ, List.getElem_cons_zero, List.setIfInBounds_toArray, List.set_cons_zero, List.set_cons_succ]
              refine wpAnyH_ready (rs := [10]) (by kernel_rfl) (by simp) ?_
              refine AllReadyH.cons rfl (fun K hK => ?_) (AllReadyH.nil)
              · skip
                go_simp
                have R_4 := Row.fresh w6 w6.heap.size rfl 51 [.int .u64 0, .int .u64 0, .int .u64 0, .int .i64 0, .slice none 0 0, .int .i64 0] #[.int .u64 0, .int .u64 0, .int .u64 0, .int .i64 0, .slice none 0 0, .int .i64 0] rfl
                have M_4 := (M_3).new (Bl.alloc w6 (.cells #[.int .u64 0, .int .u64 0, .int .u64 0, .int .i64 0, .slice none 0 0, .int .i64 0] 51))
                have B6_4 := below_then (Below.refl w6.heap.size w6) (Bl.alloc w6 (.cells #[.int .u64 0, .int .u64 0, .int .u64 0, .int .i64 0, .slice none 0 0, .int .i64 0] 51))
                refine hK.out _ _ (below_then H_3 (Bl.alloc w6 (.cells #[.int .u64 0, .int .u64 0, .int .u64 0, .int .i64 0, .slice none 0 0, .int .i64 0] 51))) (fun H_4 => ?_)
                generalize (w6.alloc (.cells #[.int .u64 0, .int .u64 0, .int .u64 0, .int .i64 0, .slice none 0 0, .int .i64 0] 51)) = wa at H_4 R_4 M_4 B6_4 ⊢
                clear hK K
                try simp only [Act.put, List.getElem_toArray, List.getElem_cons_succ, List.getElem_cons_zero, List.setIfInBounds_toArray, List.set_cons_zero, List.set_cons_succ]
                refine wpAnyH_ready (rs := [11]) (by kernel_rfl) (by simp) ?_
                refine AllReadyH.cons rfl (fun K hK => ?_) (AllReadyH.nil)
                · skip
                  have r0 := R_4.c 0 _ rfl; have f0 := R_4.fz 0
                  have r1 := R_4.c 1 _ rfl; have f1 := R_4.fz 1
                  have r2 := R_4.c 2 _ rfl; have f2 := R_4.fz 2
                  have r3 := R_4.c 3 _ rfl; have f3 := R_4.fz 3
                  have r4 := R_4.c 4 _ rfl; have f4 := R_4.fz 4
                  have r5 := R_4.c 5 _ rfl; have f5 := R_4.fz 5
                  go_simp
                  refine hK.out _ _ (below_put6 H_4 (H_3.size) _ _ _ _ _ _) (fun H_5 => ?_)
                  clear hK K
                  try simp only [Act.put, List.getElem_toArray, List.getElem_cons_succ, List.getElem_cons_zero, List.setIfInBounds_toArray, List.set_cons_zero, List.set_cons_succ]
                  refine wpAnyH_take (i := 12) (v := .int .i64 s.e) rfl (by kernel_rfl) (by kernel_rfl) (by kernel_rfl) (fun _ _ _ h => h) (Or.inl ⟨by rfl, fun w hS => by go_simp⟩) (by assumption) ?_
                  try simp only [Act.put, List.getElem_toArray, List.getElem_cons_succ, List.getElem_cons_zero, List.setIfInBounds_toArray, List.set_cons_zero, List.set_cons_succ]
                  refine wpAnyH_done (by kernel_rfl) ?_ _
                  go_wp2_with fail
                  go_meet
                  exact ⟨_, A6, c6, es6, rfl, rfl, R_4.put6 _ _ _ _ _ _, torn_end hL6 B6_4 (.inr (Nat.le_refl _)), he6, below_put6 H_4 (Nat.le_trans (Nat.le_refl _) H_3.size) _ _ _ _ _ _⟩
            · skip
              go_simp
              have R_6 := Row.fresh w5 w5.heap.size rfl 51 [.int .u64 0, .int .u64 0, .int .u64 0, .int .i64 0, .slice none 0 0, .int .i64 0] #[.int .u64 0, .int .u64 0, .int .u64 0, .int .i64 0, .slice none 0 0, .int .i64 0] rfl
              have M_6 := (M_2).new (Bl.alloc w5 (.cells #[.int .u64 0, .int .u64 0, .int .u64 0, .int .i64 0, .slice none 0 0, .int .i64 0] 51))
              have J_6 := (hn5.own.rb).new (Bl.alloc w5 (.cells #[.int .u64 0, .int .u64 0, .int .u64 0, .int .i64 0, .slice none 0 0, .int .i64 0] 51))
              refine hK.out _ _ (below_then H_2 (Bl.alloc w5 (.cells #[.int .u64 0, .int .u64 0, .int .u64 0, .int .i64 0, .slice none 0 0, .int .i64 0] 51))) (fun H_6 => ?_)
              generalize (w5.alloc (.cells #[.int .u64 0, .int .u64 0, .int .u64 0, .int .i64 0, .slice none 0 0, .int .i64 0] 51)) = wa at H_6 R_6 M_6 J_6 ⊢
              clear hK K
              try simp only [Act.put, List.getElem_toArray, List.getElem_cons_succ, List.getElem_cons_zero, List.setIfInBounds_toArray, List.set_cons_zero, List.set_cons_succ]
              refine wpAnyH_ready (rs := [6]) (by kernel_rfl) (by simp) ?_
              refine AllReadyH.cons rfl (fun K hK => ?_) (AllReadyH.nil)
              · skip
                go_simp
                (go_at_call 24; go_loud (with_reducible refine (HD.out _ _ _ J_6).mono ?_); rintro e6 w6 ⟨A6, c6, es6, rfl, hL6, he6, hb6⟩)
                dsimp only
                have R_7 := R_6.new hb6
                have M_7 := (M_6).new hb6
                refine hK.out _ _ (below_then H_6 hb6) (fun H_7 => ?_)
                clear hK K
                try simp only [Act.put, List.getElem_toArray, List.getElem_cons_succ, List.getElem_cons_zero, List.setIfInBounds_toArray, List.set_cons_zero, List.set_cons_succ]
                refine wpAnyH_take (i := 7) (v := .tuple #[.agg #[.int .u64 s.h.n, .int .u64 s.h.ep, .int .u64 s.h.f, .int .i64 s.h.w, .slice A6 nb c6, .int .i64 s.used], .int .i64 s.e]) rfl (by kernel_rfl) (by kernel_rfl) (by kernel_rfl) (fun _ _ _ h => h) (Or.inl ⟨by rfl, fun w hS => by go_simp⟩) (by assumption) ?_
                try simp only [Act.put, List.getElem_toArray, List.getElem_cons_succ, List.getElem_cons_zero, List.setIfInBounds_toArray, List.set_cons_zero, List.set_cons_succ]
                refine wpAnyH_take (i := 8) (v := .agg #[.int .u64 s.h.n, .int .u64 s.h.ep, .int .u64 s.h.f, .int .i64 s.h.w, .slice A6 nb c6, .int .i64 s.used]) rfl (by kernel_rfl) (by kernel_rfl) (by kernel_rfl) (fun _ _ _ h => h) (Or.inl ⟨by rfl, fun w hS => by go_simp⟩) (by assumption) ?_
                try simp only [Act.put, List.getElem_toArray, List.getElem_cons_succ, List.getElem_cons_zero, List.setIfInBounds_toArray, List.set_cons_zero, List.set_cons_succ]
                refine wpAnyH_take (i := 9) (v := .int .i64 s.e) rfl (by kernel_rfl) (by kernel_rfl) (by kernel_rfl) (fun _ _ _ h => h) (Or.inl ⟨by rfl, fun w hS => by go_simp⟩) (by assumption) ?_
                try simp only [Act.put, List.getElem_toArray, List.getElem_cons_succ, List.getElem_cons_zero, List.setIfInBounds_toArray, List.set_cons_zero, List.set_cons_succ]
                refine wpAnyH_ready (rs := [11]) (by kernel_rfl) (by simp) ?_
                refine AllReadyH.cons rfl (fun K hK => ?_) (AllReadyH.nil)
                · skip
                  have r0 := R_7.c 0 _ rfl; have f0 := R_7.fz 0
                  have r1 := R_7.c 1 _ rfl; have f1 := R_7.fz 1
                  have r2 := R_7.c 2 _ rfl; have f2 := R_7.fz 2
                  have r3 := R_7.c 3 _ rfl; have f3 := R_7.fz 3
                  have r4 := R_7.c 4 _ rfl; have f4 := R_7.fz 4
                  have r5 := R_7.c 5 _ rfl; have f5 := R_7.fz 5
                  go_simp
                  refine hK.out _ _ (below_put6 H_7 (H_2.size) _ _ _ _ _ _) (fun H_8 => ?_)
                  clear hK K
                  try simp only [Act.put, List.getElem_toArray, List.getElem_cons_succ, List.getElem_cons_zero, List.setIfInBounds_toArray, List.set_cons_zero, List.set_cons_succ]
                  refine wpAnyH_take (i := 12) (v := .int .i64 s.e) rfl (by kernel_rfl) (by kernel_rfl) (by kernel_rfl) (fun _ _ _ h => h) (Or.inl ⟨by rfl, fun w hS => by go_simp⟩) (by assumption) ?_
                  try simp only [Act.put, List.getElem_toArray, List.getElem_cons_succ, List.getElem_cons_zero, List.setIfInBounds_toArray, List.set_cons_zero, List.set_cons_succ]
                  refine wpAnyH_done (by kernel_rfl) ?_ _
                  go_wp2_with fail
                  go_meet
                  exact ⟨_, A6, c6, es6, rfl, rfl, R_7.put6 _ _ _ _ _ _, torn_end hL6 (Below.refl w6.heap.size w6) (.inl (Nat.lt_succ_of_lt R_6.lt)), he6, below_put6 H_7 (Nat.le_trans (Nat.le_refl _) H_2.size) _ _ _ _ _ _⟩
          · skip
            go_simp
            have R_9 := Row.fresh wM wM.heap.size rfl 51 [.int .u64 0, .int .u64 0, .int .u64 0, .int .i64 0, .slice none 0 0, .int .i64 0] #[.int .u64 0, .int .u64 0, .int .u64 0, .int .i64 0, .slice none 0 0, .int .i64 0] rfl
            have M_9 := (hoM.rb).new (Bl.alloc wM (.cells #[.int .u64 0, .int .u64 0, .int .u64 0, .int .i64 0, .slice none 0 0, .int .i64 0] 51))
            refine hK.out _ _ (below_then H_1 (Bl.alloc wM (.cells #[.int .u64 0, .int .u64 0, .int .u64 0, .int .i64 0, .slice none 0 0, .int .i64 0] 51))) (fun H_9 => ?_)
            generalize (wM.alloc (.cells #[.int .u64 0, .int .u64 0, .int .u64 0, .int .i64 0, .slice none 0 0, .int .i64 0] 51)) = wa at H_9 R_9 M_9 ⊢
            clear hK K
            try simp only [Act.put, List.getElem_toArray, List.getElem_cons_succ, List.getElem_cons_zero, List.setIfInBounds_toArray, List.set_cons_zero, List.set_cons_succ]
            refine wpAnyH_ready (rs := [5]) (by kernel_rfl) (by simp) ?_
            refine AllReadyH.cons rfl (fun K hK => ?_) (AllReadyH.nil)
            · skip
              go_simp
              (go_at_call 30; go_loud (with_reducible refine (joinN A1 _ _ _ _ ct zn ln c1 _ _ ((HOKT.out.rb.take ct).new H_9) M_9 (by rw [List.length_take, ← HM.out]; omega) (by rw [List.length_replicate]) (by rw [List.length_take, List.length_replicate, ← HM.out, HLN.out]; omega) rfl (by rw [List.length_take, List.length_replicate, ← HM.out]; omega)).mono ?_); rintro e5 w5 ⟨A5, c5, rfl, hn5⟩)
              dsimp only
              have R_10 := R_9.new hn5.below
              have M_10 := (M_9).new hn5.below
              refine hK.out _ _ (below_then H_9 hn5.below) (fun H_10 => ?_)
              clear hK K
              try simp only [Act.put, List.getElem_toArray, List.getElem_cons_succ, List.getElem_cons_zero, List.setIfInBounds_toArray, List.set_cons_zero, List.set_cons_succ]
              refine wpAnyH_ready (rs := [6]) (by kernel_rfl) (by simp) ?_
              refine AllReadyH.cons rfl (fun K hK => ?_) (AllReadyH.nil)
              · skip
                go_simp
                (go_at_call 24; go_loud (with_reducible refine (HD.out _ _ _ hn5.own.rb).mono ?_); rintro e6 w6 ⟨A6, c6, es6, rfl, hL6, he6, hb6⟩)
                dsimp only
                have R_11 := R_10.new hb6
                have M_11 := (M_10).new hb6
                refine hK.out _ _ (below_then H_10 hb6) (fun H_11 => ?_)
                clear hK K
                try simp only [Act.put, List.getElem_toArray, List.getElem_cons_succ, List.getElem_cons_zero, List.setIfInBounds_toArray, List.set_cons_zero, List.set_cons_succ]
                refine wpAnyH_take (i := 7) (v := .tuple #[.agg #[.int .u64 s.h.n, .int .u64 s.h.ep, .int .u64 s.h.f, .int .i64 s.h.w, .slice A6 nb c6, .int .i64 s.used], .int .i64 s.e]) rfl (by kernel_rfl) (by kernel_rfl) (by kernel_rfl) (fun _ _ _ h => h) (Or.inl ⟨by rfl, fun w hS => by go_simp⟩) (by assumption) ?_
                try simp only [Act.put, List.getElem_toArray, List.getElem_cons_succ, List.getElem_cons_zero, List.setIfInBounds_toArray, List.set_cons_zero, List.set_cons_succ]
                refine wpAnyH_take (i := 8) (v := .agg #[.int .u64 s.h.n, .int .u64 s.h.ep, .int .u64 s.h.f, .int .i64 s.h.w, .slice A6 nb c6, .int .i64 s.used]) rfl (by kernel_rfl) (by kernel_rfl) (by kernel_rfl) (fun _ _ _ h => h) (Or.inl ⟨by rfl, fun w hS => by go_simp⟩) (by assumption) ?_
                try simp only [Act.put, List.getElem_toArray, List.getElem_cons_succ, List.getElem_cons_zero, List.setIfInBounds_toArray, List.set_cons_zero, List.set_cons_succ]
                refine wpAnyH_take (i := 9) (v := .int .i64 s.e) rfl (by kernel_rfl) (by kernel_rfl) (by kernel_rfl) (fun _ _ _ h => h) (Or.inl ⟨by rfl, fun w hS => by go_simp⟩) (by assumption) ?_
                try simp only [Act.put, List.getElem_toArray, List.getElem_cons_succ, List.getElem_cons_zero, List.setIfInBounds_toArray, List.set_cons_zero, List.set_cons_succ]
                refine wpAnyH_ready (rs := [11]) (by kernel_rfl) (by simp) ?_
                refine AllReadyH.cons rfl (fun K hK => ?_) (AllReadyH.nil)
                · skip
                  have r0 := R_11.c 0 _ rfl; have f0 := R_11.fz 0
                  have r1 := R_11.c 1 _ rfl; have f1 := R_11.fz 1
                  have r2 := R_11.c 2 _ rfl; have f2 := R_11.fz 2
                  have r3 := R_11.c 3 _ rfl; have f3 := R_11.fz 3
                  have r4 := R_11.c 4 _ rfl; have f4 := R_11.fz 4
                  have r5 := R_11.c 5 _ rfl; have f5 := R_11.fz 5
                  go_simp
                  refine hK.out _ _ (below_put6 H_11 (H_1.size) _ _ _ _ _ _) (fun H_12 => ?_)
                  clear hK K
                  try simp only [Act.put, List.getElem_toArray, List.getElem_cons_succ, List.getElem_cons_zero, List.setIfInBounds_toArray, List.set_cons_zero, List.set_cons_succ]
                  refine wpAnyH_take (i := 12) (v := .int .i64 s.e) rfl (by kernel_rfl) (by kernel_rfl) (by kernel_rfl) (fun _ _ _ h => h) (Or.inl ⟨by rfl, fun w hS => by go_simp⟩) (by assumption) ?_
                  try simp only [Act.put, List.getElem_toArray, List.getElem_cons_succ, List.getElem_cons_zero, List.setIfInBounds_toArray, List.set_cons_zero, List.set_cons_succ]
                  refine wpAnyH_done (by kernel_rfl) ?_ _
                  go_wp2_with fail
                  go_meet
                  exact ⟨_, A6, c6, es6, rfl, rfl, R_11.put6 _ _ _ _ _ _, torn_end hL6 (Below.refl w6.heap.size w6) (.inl (Nat.lt_succ_of_lt R_10.lt)), he6, below_put6 H_11 (Nat.le_trans (Nat.le_refl _) H_1.size) _ _ _ _ _ _⟩
        · skip
          go_simp
          have R_13 := Row.fresh wd wd.heap.size rfl 51 [.int .u64 0, .int .u64 0, .int .u64 0, .int .i64 0, .slice none 0 0, .int .i64 0] #[.int .u64 0, .int .u64 0, .int .u64 0, .int .i64 0, .slice none 0 0, .int .i64 0] rfl
          refine hK.out _ _ (below_then hHeld (Bl.alloc wd (.cells #[.int .u64 0, .int .u64 0, .int .u64 0, .int .i64 0, .slice none 0 0, .int .i64 0] 51))) (fun H_13 => ?_)
          generalize (wd.alloc (.cells #[.int .u64 0, .int .u64 0, .int .u64 0, .int .i64 0, .slice none 0 0, .int .i64 0] 51)) = wa at H_13 R_13 ⊢
          clear hK K
          try simp only [Act.put, List.getElem_toArray, List.getElem_cons_succ, List.getElem_cons_zero, List.setIfInBounds_toArray, List.set_cons_zero, List.set_cons_succ]
          refine wpAnyH_ready (rs := [4]) (by kernel_rfl) (by simp) ?_
          refine AllReadyH.cons rfl (fun K hK => ?_) (AllReadyH.nil)
          · skip
            refine step_makeB8 bt rfl _ _ rfl .i64 .i64 zn zn zn rfl rfl rfl rfl (by omega) wa.heap.size (Nat.le_refl _) (fun wM hoM hbM _ => ?_)
            have R_14 := R_13.new hbM
            refine hK.out _ _ (below_then H_13 hbM) (fun H_14 => ?_)
            clear hK K
            try simp only [Act.put, List.getElem_toArray, List.getElem_cons_succ, List.getElem_cons_zero, List.setIfInBounds_toArray, List.set_cons_zero, List.set_cons_succ]
            refine wpAnyH_ready (rs := [5]) (by kernel_rfl) (by simp) ?_
            refine AllReadyH.cons rfl (fun K hK => ?_) (AllReadyH.nil)
            · skip
              go_simp
              (go_at_call 30; go_loud (with_reducible refine (joinN A1 _ _ _ _ ct zn ln c1 _ _ ((HOKT.out.rb.take ct).new H_14) hoM.rb (by rw [List.length_take, ← HM.out]; omega) (by rw [List.length_replicate]) (by rw [List.length_take, List.length_replicate, ← HM.out, HLN.out]; omega) rfl (by rw [List.length_take, List.length_replicate, ← HM.out]; omega)).mono ?_); rintro e5 w5 ⟨A5, c5, rfl, hn5⟩)
              dsimp only
              have R_15 := R_14.new hn5.below
              have M_15 := (hoM.rb).new hn5.below
              refine hK.out _ _ (below_then H_14 hn5.below) (fun H_15 => ?_)
              clear hK K
              try simp only [Act.put, List.getElem_toArray, List.getElem_cons_succ, List.getElem_cons_zero, List.setIfInBounds_toArray, List.set_cons_zero, List.set_cons_succ]
              refine wpAnyH_ready (rs := [6]) (by kernel_rfl) (by simp) ?_
              refine AllReadyH.cons rfl (fun K hK => ?_) (AllReadyH.nil)
              · skip
                go_simp
                (go_at_call 24; go_loud (with_reducible refine (HD.out _ _ _ hn5.own.rb).mono ?_); rintro e6 w6 ⟨A6, c6, es6, rfl, hL6, he6, hb6⟩)
                dsimp only
                have R_16 := R_15.new hb6
                have M_16 := (M_15).new hb6
                refine hK.out _ _ (below_then H_15 hb6) (fun H_16 => ?_)
                clear hK K
                try simp only [Act.put, List.getElem_toArray, List.getElem_cons_succ, List.getElem_cons_zero, List.setIfInBounds_toArray, List.set_cons_zero, List.set_cons_succ]
                refine wpAnyH_take (i := 7) (v := .tuple #[.agg #[.int .u64 s.h.n, .int .u64 s.h.ep, .int .u64 s.h.f, .int .i64 s.h.w, .slice A6 nb c6, .int .i64 s.used], .int .i64 s.e]) rfl (by kernel_rfl) (by kernel_rfl) (by kernel_rfl) (fun _ _ _ h => h) (Or.inl ⟨by rfl, fun w hS => by go_simp⟩) (by assumption) ?_
                try simp only [Act.put, List.getElem_toArray, List.getElem_cons_succ, List.getElem_cons_zero, List.setIfInBounds_toArray, List.set_cons_zero, List.set_cons_succ]
                refine wpAnyH_take (i := 8) (v := .agg #[.int .u64 s.h.n, .int .u64 s.h.ep, .int .u64 s.h.f, .int .i64 s.h.w, .slice A6 nb c6, .int .i64 s.used]) rfl (by kernel_rfl) (by kernel_rfl) (by kernel_rfl) (fun _ _ _ h => h) (Or.inl ⟨by rfl, fun w hS => by go_simp⟩) (by assumption) ?_
                try simp only [Act.put, List.getElem_toArray, List.getElem_cons_succ, List.getElem_cons_zero, List.setIfInBounds_toArray, List.set_cons_zero, List.set_cons_succ]
                refine wpAnyH_take (i := 9) (v := .int .i64 s.e) rfl (by kernel_rfl) (by kernel_rfl) (by kernel_rfl) (fun _ _ _ h => h) (Or.inl ⟨by rfl, fun w hS => by go_simp⟩) (by assumption) ?_
                try simp only [Act.put, List.getElem_toArray, List.getElem_cons_succ, List.getElem_cons_zero, List.setIfInBounds_toArray, List.set_cons_zero, List.set_cons_succ]
                refine wpAnyH_ready (rs := [11]) (by kernel_rfl) (by simp) ?_
                refine AllReadyH.cons rfl (fun K hK => ?_) (AllReadyH.nil)
                · skip
                  have r0 := R_16.c 0 _ rfl; have f0 := R_16.fz 0
                  have r1 := R_16.c 1 _ rfl; have f1 := R_16.fz 1
                  have r2 := R_16.c 2 _ rfl; have f2 := R_16.fz 2
                  have r3 := R_16.c 3 _ rfl; have f3 := R_16.fz 3
                  have r4 := R_16.c 4 _ rfl; have f4 := R_16.fz 4
                  have r5 := R_16.c 5 _ rfl; have f5 := R_16.fz 5
                  go_simp
                  refine hK.out _ _ (below_put6 H_16 (hHeld.size) _ _ _ _ _ _) (fun H_17 => ?_)
                  clear hK K
                  try simp only [Act.put, List.getElem_toArray, List.getElem_cons_succ, List.getElem_cons_zero, List.setIfInBounds_toArray, List.set_cons_zero, List.set_cons_succ]
                  refine wpAnyH_take (i := 12) (v := .int .i64 s.e) rfl (by kernel_rfl) (by kernel_rfl) (by kernel_rfl) (fun _ _ _ h => h) (Or.inl ⟨by rfl, fun w hS => by go_simp⟩) (by assumption) ?_
                  try simp only [Act.put, List.getElem_toArray, List.getElem_cons_succ, List.getElem_cons_zero, List.setIfInBounds_toArray, List.set_cons_zero, List.set_cons_succ]
                  refine wpAnyH_done (by kernel_rfl) ?_ _
                  go_wp2_with fail
                  go_meet
                  exact ⟨_, A6, c6, es6, rfl, rfl, R_16.put6 _ _ _ _ _ _, torn_end hL6 (Below.refl w6.heap.size w6) (.inl (Nat.lt_succ_of_lt R_15.lt)), he6, below_put6 H_16 (Nat.le_trans (Nat.le_refl _) hHeld.size) _ _ _ _ _ _⟩
        -- end of region 6
      case rest =>
        obtain ⟨g, A6, c6, es6, rfl, rfl, RS, ⟨bS, LS6⟩, he6, hb6⟩ := hcut
        obtain ⟨wX, hwX⟩ : ∃ x, x = wc := ⟨_, rfl⟩
        subst hwX
        obtain ⟨a3, hA3, hc0⟩ := HOKT.out.at_ 0 (Nat.succ_pos _)
        subst hA3
        have C0 := (hb6.cell (World.block_lt_of_cell? _ _ hc0)).trans hc0
        rw [show endN h.f (consOf bs) 0 = 48 from rfl] at C0
        have C1 : wX.cell? a3 = some (.int .i64 (48 : Nat)) := C0
        have HHB := Lib.hid hb6
        have HRS := Lib.hid RS
        have HHE := Lib.hid he6
        have HLS := Lib.hid LS6
        clear hc0 hb6 RS he6 LS6 x0 x1 x2 x3
        by_cases h48 : ct < 48
        · have e0 : s = noSeg := by rw [← HSX.out]; exact readF_torn0 h _ ct zn h48
          have E0 : s.e = 3 := by rw [e0]; rfl
          have hnb0 : nb = 0 := by rw [HNB.out, e0]; rfl
          have RS : Row wX g 51 [.int .u64 (0 : Int), .int .u64 (0 : Int), .int .u64 (0 : Int), .int .i64 (0 : Int), .slice A6 0 c6, .int .i64 (0 : Int)] := by have := HRS.out; rw [e0, hnb0] at this; exact this
          have r0 := RS.c 0 _ rfl
          have r1 := RS.c 1 _ rfl
          have r2 := RS.c 2 _ rfl
          have r3 := RS.c 3 _ rfl
          have r4 := RS.c 4 _ rfl
          have r5 := RS.c 5 _ rfl
          have hE := run_equalHS wX 0 0 0 0
          have h48' : (ct : Int) < 48 := by omega
          clear e0 hnb0 RS
          go_wp2
          go_ret
          exact ⟨rfl, below_then B2.out HHB.out⟩
        · have h48' : ¬ (ct : Int) < 48 := by omega
          have E0 : s.e = 0 := by
            obtain ⟨k, k1, k2, k3⟩ := torn_k h.f (consOf bs) ct (consOf bs).length 0 (Nat.zero_add _) (by rw [show endN h.f (consOf bs) 0 = 48 from rfl]; omega)
            rw [← HSX.out, readF_torn h HOKT.out.ok (consOf bs) HOKT.out.bs ct zn k k1 k2 k3]
          go_wp2
          go_loop [15] (fun iv => ∃ j : Nat, j ≤ n ∧ iv = .int .i64 j ∧ endN h.f (consOf bs) j ≤ ct) (fun iv => n - (intOf iv).toNat)
          case atStart => exact ⟨0, Nat.zero_le _, rfl, by rw [show endN h.f (consOf bs) 0 = 48 from rfl]; omega⟩
          case round =>
            obtain ⟨j, hj, rfl, hej⟩ := hrel
            by_cases hgo : j < n ∧ endN h.f (consOf bs) (j + 1) ≤ ct
            · obtain ⟨hlt, hu2⟩ := hgo
              obtain ⟨a3', hA, hcj⟩ := HOKT.out.at_ (j + 1) (by rw [← HCL.out]; omega)
              obtain rfl := Option.some.inj hA
              have CJ := (HHB.out.cell (World.block_lt_of_cell? _ _ hcj)).trans hcj
              rw [addr_plus] at CJ
              clear hcj hA
              obtain ⟨u, hu⟩ : ∃ u, u = endN h.f (consOf bs) (j + 1) := ⟨_, rfl⟩
              have hrel' : endN h.f (consOf bs) (j + 1) ≤ ct := hu2
              have HREL := Lib.hid hrel'
              rw [← hu] at CJ hu2
              have hu3 : (u : Int) ≤ (ct : Int) := by omega
              clear hu hrel' hej
              go_wp2
              go_round
              case rel => exact ⟨j + 1, by omega, by go_num, HREL.out⟩
              case measure => simp [intOf]; omega
            · have hfin : j = n ∨ ct < endN h.f (consOf bs) (j + 1) := by omega
              have hs : s = ⟨h, ixB h.f ((consOf bs).take j), endN h.f (consOf bs) j, 0⟩ := by rw [← HSX.out]; exact readF_torn h HOKT.out.ok (consOf bs) HOKT.out.bs ct zn j (by rw [← HCL.out]; exact hj) hej (by rw [← HCL.out]; exact hfin)
              have hnb : nb = j := by rw [HNB.out, hs]; simp only [ixB_length, List.length_take]; rw [← HCL.out]; omega
              obtain ⟨ds, hds, hdf⟩ := HOKT.out.all
              obtain ⟨a4, hA, hcj⟩ := HOKT.out.at_ j (by rw [← HCL.out]; omega)
              obtain rfl := Option.some.inj hA
              have HCJ := Lib.hid ((HHB.out.cell (World.block_lt_of_cell? _ _ hcj)).trans hcj)
              have HDS := Lib.hid (hds.new HHB.out)
              have hfs : (es6.map BtV.view).map BvV.fst = (ds.map BvV.fst).take j := by
                rw [view_fst, HHE.out, hs, hdf]
                exact ixB_take (consOf bs) h.f j
              have HLE := Lib.hid (readF_lens _ (es6.map BtV.view) (by rw [view_fst, HHE.out, ← HSX.out]))
              have hln6 : j = (es6.map BtV.view).length := by rw [List.length_map, ← hnb, HNB.out, ← HHE.out, List.length_map]
              have hdn : n = ds.length := by rw [HCL.out, ← ixB_length (consOf bs) h.f, ← hdf, List.length_map]
              have HFS := Lib.hid hfs
              have HLN6 := Lib.hid hln6
              have HDN := Lib.hid hdn
              subst hnb
              have RS : Row wX g 51 [.int .u64 h.n, .int .u64 h.ep, .int .u64 h.f, .int .i64 h.w, .slice A6 nb c6, .int .i64 (endN h.f (consOf bs) nb)] := by have := HRS.out; rw [hs] at this; exact this
              have HV := Lib.hid HLS.out.view
              have HFIN := Lib.hid hfin
              have R6 := R2.out.new HHB.out
              have r0 := RS.c 0 _ rfl
              have r1 := RS.c 1 _ rfl
              have r2 := RS.c 2 _ rfl
              have r3 := RS.c 3 _ rfl
              have r4 := RS.c 4 _ rfl
              have r5 := RS.c 5 _ rfl
              have x0 := R6.c 0 _ rfl
              have x1 := R6.c 1 _ rfl
              have x2 := R6.c 2 _ rfl
              have x3 := R6.c 3 _ rfl
              clear hs hfin hds hdf hcj hA hfs hln6 hdn RS R6 hej
              by_cases hlt : nb < n
              · obtain ⟨a5, hA, hcj⟩ := HOKT.out.at_ (nb + 1) (by rw [← HCL.out]; omega)
                obtain rfl := Option.some.inj hA
                have CJ := (HHB.out.cell (World.block_lt_of_cell? _ _ hcj)).trans hcj
                rw [addr_plus] at CJ
                clear hcj hA
                obtain ⟨u, hu⟩ : ∃ u, u = endN h.f (consOf bs) (nb + 1) := ⟨_, rfl⟩
                rw [← hu] at CJ
                have hu2 : ¬ u ≤ ct := fun h => hgo ⟨hlt, by rw [← hu]; exact h⟩
                have hu3 : ¬ (u : Int) ≤ (ct : Int) := by omega
                clear hu hgo
                go_wp2_with (go_at_call 29; go_loud (with_reducible refine (begins_calls h.n h.ep h.f h.w _ nb n (n + 1) A6 A2 (some a3) c6 c2 c3 (es6.map BtV.view) ds _ HV.out HDS.out HLN6.out HFS.out hj HDN.out (by omega) HLE.out a3 rfl HCJ.out (by omega)).mono ?_); rintro r7 w7 ⟨rfl, hb7⟩)
                go_ret
                exact ⟨rfl, below_then B2.out (below_then HHB.out hb7)⟩
              · clear hgo
                go_wp2_with (go_at_call 29; go_loud (with_reducible refine (begins_calls h.n h.ep h.f h.w _ nb n (n + 1) A6 A2 (some a3) c6 c2 c3 (es6.map BtV.view) ds _ HV.out HDS.out HLN6.out HFS.out hj HDN.out (by omega) HLE.out a3 rfl HCJ.out (by omega)).mono ?_); rintro r7 w7 ⟨rfl, hb7⟩)
                go_ret
                exact ⟨rfl, below_then B2.out (below_then HHB.out hb7)⟩
    · have HG := Lib.hid hg
      clear hg
      by_cases g1 : cut < 0
      · go_wp2
        go_ret
        exact ⟨rfl, B2.out⟩
      · by_cases g2 : (m : Int) < cut
        · go_wp2
          go_ret
          exact ⟨rfl, B2.out⟩
        · by_cases g3 : z < 0
          · go_wp2
            go_ret
            exact ⟨rfl, B2.out⟩
          · have g4 : (5000 : Int) < z := by have := HG.out; omega
            go_wp2
            go_ret
            exact ⟨rfl, B2.out⟩
theorem segmentTorn_calls (N E F X : Int) (hN : 0 ≤ N ∧ N ≤ 18446744073709551615) (hE : 0 ≤ E ∧ E ≤ 18446744073709551615) (hF : 0 ≤ F ∧ F ≤ 18446744073709551615) (A : Option Addr) (bs : List BvV) (n c : Nat) (w : World) (hL : Laid8 w) (hB : Bats w A bs) (hn : n = bs.length) (hl : n ≤ 1048576) (hs : ∀ b ∈ bs, b.es.length * 56 ≤ 140737488355328 ∧ SmallEs b.es) (cut z : Int) :
    Calls Tryz.prog 7 #[.agg #[.int .u64 N, .int .u64 E, .int .u64 F, .int .i64 X], .slice A n c, .int .i64 cut, .int .i64 z] w fun r w' => r = .returned (.bool true) ∧ Below w.heap.size w w' := by
  obtain ⟨k, rfl⟩ := Int.eq_ofNat_of_zero_le hN.1
  obtain ⟨ep, rfl⟩ := Int.eq_ofNat_of_zero_le hE.1
  obtain ⟨fi, rfl⟩ := Int.eq_ofNat_of_zero_le hF.1
  by_cases hx : 1 ≤ X ∧ X ≤ 32
  · obtain ⟨x, rfl⟩ := Int.eq_ofNat_of_zero_le (show 0 ≤ X by omega)
    exact segmentTorn_yes ⟨k, ep, fi, x⟩ ⟨by show k ≤ 18446744073709551615; omega, by show ep ≤ 18446744073709551615; omega, by show fi ≤ 18446744073709551615; omega, by show 1 ≤ x; omega, by show x ≤ 32; omega⟩ A bs n c w hL hB hn hl hs cut z
  · exact segmentTorn_no k ep fi X hx (by omega) (by omega) (by omega) A n c _ _ w hL
end Go.Proofs.YtpmnnnbkbcpgjaaGreatDoor
