/- The walk of notaryref05.DocDecodeBatch: its loop. -/
import Derived.Test.YtelecdncdaepnaaDocDecodeBatch
import Derived.Deep.RegionLaw
import Derived.Deep.DrawnRows
namespace Go.Proofs.Ytelecdncdaepnaa
open Go.RowKit
open WireMath (numS beN rawS blobS uvarS grpL uvarL wideL)
attribute [local go_sem ↓] Go.wp_at_zero Go.wp_at_succ

/-- where the loop of DocDecodeBatch stands -/
def LoopAt (P : List UInt8) (m a2 j at_ e : Nat) (l : List En) : Prop := (e = 0 ∧ entsS P m a2 = ⟨(entsS P (m - j) at_).e, l ++ (entsS P (m - j) at_).l, (entsS P (m - j) at_).at_⟩) ∨ (e ≠ 0 ∧ (entsS P m a2).e = e)
theorem LoopAt.next {P : List UInt8} {m a2 j at_ : Nat} {l : List En} (h : LoopAt P m a2 j at_ 0 l) (hj : j < m) (t : TkR) (ht : takeR P at_ 0 = t) : LoopAt P m a2 (j + 1) t.at_ t.e (l ++ [t.v]) := by
  rcases h with ⟨_, h⟩ | ⟨h, _⟩
  · obtain ⟨h1, h2⟩ := takeR_entS P at_
    rw [ht] at h1 h2
    have hs : m - j = (m - (j + 1)) + 1 := by omega
    rw [hs, entsS] at h
    by_cases he : (entS P at_).e ≠ 0
    · rw [if_pos he] at h
      exact .inr ⟨by omega, by rw [h, h1]⟩
    · obtain ⟨h3, h4⟩ := h2 (by omega)
      rw [if_neg he] at h
      exact .inl ⟨by omega, by rw [h, h3, h4]; simp⟩
  · exact absurd rfl h
theorem LoopAt.done {P : List UInt8} {m a2 j at_ e f : Nat} {l : List En} (h : LoopAt P m a2 j at_ e l) (hj : e ≠ 0 ∨ j = m) : batF P f m a2 = if doneE P at_ e ≠ 0 then batNo (doneE P at_ e) else ⟨0, f, l⟩ := by
  unfold batF
  rcases h with ⟨rfl, h⟩ | ⟨he, h⟩
  · obtain rfl : j = m := hj.elim (fun h => absurd rfl h) id
    rw [Nat.sub_self, entsS] at h
    rw [h]
    simp
  · have : doneE P at_ e = e := by unfold doneE; rw [if_pos (.inl he)]
    rw [h, if_pos he, this, if_pos he]
theorem takeR_k (P : List UInt8) (at_ e : Nat) : (takeR P at_ e).v.k ≤ 255 := by
  have := numS_lt P at_ e 1
  unfold takeR
  split
  · show 1 ≤ 255; omega
  · split
    · show 2 ≤ 255; omega
    · show (numS P at_ e 1).1 ≤ 255; omega
theorem tri_atK (w : World) (k : Nat) (hk : w.heap.size = k) (x y z : Value) (t : TypeId) : (w.alloc (.cells #[x, y, z] t)).cell? ((⟨k, 0, none⟩ : Addr).add 0) = some x ∧ (w.alloc (.cells #[x, y, z] t)).cell? ((⟨k, 0, none⟩ : Addr).add 1) = some y ∧ (w.alloc (.cells #[x, y, z] t)).cell? ((⟨k, 0, none⟩ : Addr).add 2) = some z := by
  subst hk; exact tri_at w x y z t
theorem DS.tri {w0 w : World} {g0 g1 r0 r1 r2 : Value} (_h : DS w0 w g0 g1 r0 r1 r2) (k : Nat) (hk : w.heap.size = k) (x y z : Value) (t : TypeId) : (w.alloc (.cells #[x, y, z] t)).cell? ((⟨k, 0, none⟩ : Addr).add 0) = some x ∧ (w.alloc (.cells #[x, y, z] t)).cell? ((⟨k, 0, none⟩ : Addr).add 1) = some y ∧ (w.alloc (.cells #[x, y, z] t)).cell? ((⟨k, 0, none⟩ : Addr).add 2) = some z := tri_atK w k hk x y z t
theorem heap_put3 (w : World) (g k : Nat) (x y z : Value) (h : k ≠ g) : (((w.setCell ⟨g, 0, none⟩ x).setCell ⟨g, 1, none⟩ y).setCell ⟨g, 2, none⟩ z).heap[k]? = w.heap[k]? :=
  ((heap_setCell_other _ _ _ _ (by show k ≠ g; omega)).trans (heap_setCell_other _ _ _ _ (by show k ≠ g; omega))).trans (heap_setCell_other _ _ _ _ (by show k ≠ g; omega))
theorem put3_size (w : World) (g : Nat) (x y z : Value) : (((w.setCell ⟨g, 0, none⟩ x).setCell ⟨g, 1, none⟩ y).setCell ⟨g, 2, none⟩ z).heap.size = w.heap.size := by simp [World.setCell]
set_option maxHeartbeats 400000 in
set_option maxRecDepth 100000 in
theorem docbatch_main (A : Option Addr) (P : List UInt8) (n c : Nat) (w : World) (hp : RB w A c P) (hn : n = P.length) (hl : P.length ≤ 140737488355328) (f a1 e1 m a2 e2 : Nat) (hU1 : uvarS P 0 0 = (f, a1, e1)) (hU2 : uvarS P a1 e1 = (m, a2, e2)) (he2 : e2 = 0) (hf : f ≤ 18446744073709551615) (hm : m ≤ 64) (hmz : m ≠ 0) (hm1 : f + m < 18446744073709551616) (t : Bat) (ht : batF P f m a2 = t) :
    Calls Try.prog 29 #[.slice A n c] w fun r w' => ∃ A' c', r = .returned (.tuple #[.agg #[.int .u64 t.f, .slice A' t.l.length c'], .int .i64 t.e]) ∧ BatAt w w' A' t.l.length t.l := by
  subst hn
  have D0 := Lib.hid (DS.start w (.slice A P.length c) (.int .i64 0) (.int .i64 0))
  have hla1 : a1 ≤ P.length := by have := uvarS_le P 0 0 (Nat.zero_le _); rw [hU1] at this; exact this
  have hla2 : a2 ≤ P.length := by have := uvarS_le P a1 e1 hla1; rw [hU2] at this; exact this
  have HU1 := Lib.hid hU1
  have HU2 := Lib.hid hU2
  have c0 := Lib.hid (show (0 : Int) = ((0 : Nat) : Int) from rfl)
  have x0 := D0.out.rd.c0
  have x1 := D0.out.rd.c1
  have x2 := D0.out.rd.c2
  have hb1 : decide ((64 : Int) < (m : Int)) = false := by rw [decide_eq_false_iff_not]; omega
  have hb2 : ((m : Int) == 0) = false := by rw [beq_eq_false_iff_ne]; omega
  have hmm : m ≤ 9223372036854775807 := by omega
  have HFB := Lib.hid (show decide (f + m < 18446744073709551616) = true by rw [decide_eq_true_eq]; omega)
  have HTT := Lib.hid ht
  have HE2 := Lib.hid he2
  clear hU1 hU2 hm1 ht hmz he2
  go_enter Try.func29, Try.ntmps29
  go_wp2_with (first
    | (go_at_call 68; (with_reducible refine (tkUvarN A P c 0 0 0 0 c0.out c0.out _ (hp.new D0.out.below) hl (Nat.zero_le _) f a1 e1 HU1.out).mono ?_); rintro s1 w1 ⟨rfl, hb1⟩; have DB1 := D0.out.new hb1; have DC1 := DB1.set0 (.int .u64 f); have D1 := DC1.putR (.slice A P.length c) (.int .i64 a1) (.int .i64 e1); have v0 := DB1.bat.c0; have q0 := DB1.bat.fz 0; have g0 := DC1.rd.c0; have g1 := DC1.rd.c1; have g2 := DC1.rd.c2; have f0 := DC1.rd.fz 0; have f1 := DC1.rd.fz 1; have f2 := DC1.rd.fz 2; have r0 := D1.rd.c0; have r1 := D1.rd.c1; have r2 := D1.rd.c2; have hz1 := D1.rd.lt)
    | (go_at_call 68; (with_reducible refine (tkUvarN A P c a1 e1 a1 e1 rfl rfl _ (hp.new D1.below) hl hla1 m a2 e2 HU2.out).mono ?_); rintro s2 w2 ⟨rfl, hb2⟩; clear v0 q0 g0 g1 g2 f0 f1 f2 r0 r1 r2; have DB2 := D1.new hb2; have D2 := DB2.putR (.slice A P.length c) (.int .i64 a2) (.int .i64 e2); have g0 := DB2.rd.c0; have g1 := DB2.rd.c1; have g2 := DB2.rd.c2; have f0 := DB2.rd.fz 0; have f1 := DB2.rd.fz 1; have f2 := DB2.rd.fz 2; have r0 := D2.rd.c0; have r1 := D2.rd.c1; have r2 := D2.rd.c2; have m0 := D2.bat.c0; have m1 := D2.bat.c1; have hz2 := D2.rd.lt; have z2 := trivial)
    | (go_at_call 70; go_loud (with_reducible refine (dfits_calls f m _ rfl hf hmm _ _ HFB.out).mono ?_); rintro r5 w5 ⟨rfl, rfl⟩))
  have hbase : w.heap.size + 1 + 1 < w2.heap.size := DB2.rd.lt
  go_loopw [7, 8] (fun iv _ wr => ∃ (j at_ e : Nat) (ds : List EnX) (A1 : Option Addr) (c1 : Nat), j ≤ m ∧ iv = .int .i64 j ∧ at_ ≤ P.length ∧ DS w wr (.int .u64 f) (.slice A1 j c1) (.slice A P.length c) (.int .i64 at_) (.int .i64 e) ∧ EL wr w2.heap.size (.slice A1 j c1) j ds ∧ w2.heap.size ≤ wr.heap.size ∧ Hid (LoopAt P m a2 j at_ e (ensOf ds))) (fun iv _ _ => m - (intOf iv).toNat)
  case atStart => exact ⟨0, a2, e2, [], none, 0, Nat.zero_le _, rfl, hla2, D2, EL.nil _ _, by simp [World.setCell], Lib.hid (.inl ⟨HE2.out, by simp [ensOf]⟩)⟩
  case round =>
    clear g0 g1 g2 f0 f1 f2 r0 r1 r2 m0 m1 hz1 hz2 DB1 DC1 D1 DB2 D2 z2
    obtain ⟨j, at_, e, ds, A1, c1, hj, rfl, hat, DD, HEL, hw1, HLA⟩ := hrel
    have r0 := DD.rd.c0
    have r1 := DD.rd.c1
    have r2 := DD.rd.c2
    have m0 := DD.bat.c0
    have m1 := DD.bat.c1
    have p1 := DD.bat.fz 1
    have hzr := DD.rd.lt
    by_cases hgo : j < m ∧ e = 0
    · obtain ⟨hlt, he0⟩ := hgo
      have hbe : ((e : Int) == 0) = true := by rw [beq_iff_eq]; omega
      have HE0 := Lib.hid he0
      have hla := HLA.out
      rw [he0] at hla
      obtain ⟨tt, htt⟩ : ∃ tt, takeR P at_ 0 = tt := ⟨_, rfl⟩
      have HNX := Lib.hid (hla.next hlt tt htt)
      have HTK := Lib.hid (show takeR P at_ e = tt by rw [he0]; exact htt)
      have hle : tt.at_ ≤ P.length := by rw [← htt]; exact takeR_le P at_ 0 hat
      have HKV : Hid (tt.v.k ≤ 255) := Lib.hid (by rw [← htt]; exact takeR_k P at_ 0)
      clear htt he0 hla HLA
      have DA := DD.new (below_alloc1 (Below.refl _ _) (Nat.le_refl _) (.cells #[.int .u8 0, .slice none 0 0, .slice none 0 0] 26))
      have LA := Lib.hid (HEL.new (below_alloc1 (Below.refl _ _) (Nat.le_refl _) (.cells #[.int .u8 0, .slice none 0 0, .slice none 0 0] 26)))
      have TA := Lib.hid (Trio.fresh wr wr.heap.size rfl (.int .u8 0) (.slice none 0 0) (.slice none 0 0) 26)
      have HROW := Lib.hid HEL.lt
      have c00 := Lib.hid (show (0 : Int) = ((0 : Nat) : Int) from rfl)
      go_wp2_with (first
        | (go_at_call 71; go_loud (with_reducible refine (dtake_calls A P _ c at_ e _ _ rfl rfl _ (hp.new DA.below) rfl hl hat tt HTK.out).mono ?_); rintro s5 w5 ⟨a5, rfl, hn5⟩; have TB5 := TA.out.new hn5.below; have DB5 := (DA.new hn5.below); have DC5 := DB5.far3 (g := wr.heap.size) (x := .int .u8 tt.v.k) (y := .slice a5.KA tt.v.K.length a5.kc) (z := .slice a5.VA tt.v.V.length a5.vc) hzr; have D5 := DC5.putR (.slice A P.length c) (.int .i64 tt.at_) (.int .i64 tt.e); have T5 := (TB5.put (.int .u8 tt.v.k) (.slice a5.KA tt.v.K.length a5.kc) (.slice a5.VA tt.v.V.length a5.vc)).other3 (g := w.heap.size + 1 + 1) (u := .slice A P.length c) (v := .int .i64 tt.at_) (t := .int .i64 tt.e) (by omega); have K5 := Lib.hid ((hn5.K.low3 (g := wr.heap.size) (x := .int .u8 tt.v.k) (y := .slice a5.KA tt.v.K.length a5.kc) (z := .slice a5.VA tt.v.V.length a5.vc) (by rw [asz]; omega)).low3 (g := w.heap.size + 1 + 1) (x := .slice A P.length c) (y := .int .i64 tt.at_) (z := .int .i64 tt.e) (by rw [asz]; omega)); have V5 := Lib.hid ((hn5.V.low3 (g := wr.heap.size) (x := .int .u8 tt.v.k) (y := .slice a5.KA tt.v.K.length a5.kc) (z := .slice a5.VA tt.v.V.length a5.vc) (by rw [asz]; omega)).low3 (g := w.heap.size + 1 + 1) (x := .slice A P.length c) (y := .int .i64 tt.at_) (z := .int .i64 tt.e) (by rw [asz]; omega)); have R5 := Lib.hid (hn5.far (base := w2.heap.size) (v := .slice A1 j c1) (by rw [asz]; omega) (fun k e9 => by have := (HROW.out k e9).2; rw [asz]; omega)); have L5 := Lib.hid (HEL.keep (fun k h1 h2 => (heap_put3 _ (w.heap.size + 1 + 1) k (.slice A P.length c) (.int .i64 tt.at_) (.int .i64 tt.e) (by omega)).trans ((heap_put3 _ wr.heap.size k (.int .u8 tt.v.k) (.slice a5.KA tt.v.K.length a5.kc) (.slice a5.VA tt.v.V.length a5.vc) (by omega)).trans ((hn5.below.block k (by rw [asz]; omega)).trans ((below_alloc1 (Below.refl wr.heap.size wr) (Nat.le_refl _) (.cells #[.int .u8 0, .slice none 0 0, .slice none 0 0] 26)).block k h2))))); have b0 := TB5.c0; have b1 := TB5.c1; have b2 := TB5.c2; have l0 := TB5.fz 0; have l1 := TB5.fz 1; have l2 := TB5.fz 2; have g0 := DC5.rd.c0; have g1 := DC5.rd.c1; have g2 := DC5.rd.c2; have f0 := DC5.rd.fz 0; have f1 := DC5.rd.fz 1; have f2 := DC5.rd.fz 2; have s0 := T5.c0; have s1 := T5.c1; have s2 := T5.c2; have n1 := D5.bat.c1; have k1 := D5.bat.fz 1; have hz5 := D5.bat.lt; have hs5 := hn5.below.size; have C5 := Lib.hid (D5.tri w5.heap.size (by rw [put3_size, put3_size]) (.int .u8 tt.v.k) (.slice a5.KA tt.v.K.length a5.kc) (.slice a5.VA tt.v.V.length a5.vc) 26); have M5 := Lib.hid (L5.out.new (below_alloc1 (Below.refl _ _) (Nat.le_refl _) (.cells #[.int .u8 tt.v.k, .slice a5.KA tt.v.K.length a5.kc, .slice a5.VA tt.v.V.length a5.vc] 26))); have O5 : Hid (EnOk _ tt.v a5) := Lib.hid (EnOk.new ⟨HKV.out, K5.out.rb, V5.out.rb⟩ (below_alloc1 (Below.refl _ _) (Nat.le_refl _) (.cells #[.int .u8 tt.v.k, .slice a5.KA tt.v.K.length a5.kc, .slice a5.VA tt.v.V.length a5.vc] 26))); have S5 : Hid (w2.heap.size ≤ w5.heap.size + 1) := Lib.hid (by rw [asz] at hs5; omega))
        | (refine wp_appendE ent rfl (.tmp 56) (.tmp 58) rfl w2.heap.size (.slice A1 j c1) j ds rfl ?_ (tt.v, a5) ⟨w5.heap.size, 0, Option.none⟩ ?_ ?_ ?_ ?_ ?_ ?_ ?_ ?_ ?_; (with_reducible exact M5.out); rfl; (with_reducible exact C5.out.1); (with_reducible exact C5.out.2.1); (with_reducible exact C5.out.2.2); (with_reducible exact O5.out); (with_reducible exact R5.out); omega; (rw [asz, put3_size, put3_size]; exact S5.out); intro A' c' w7 hl7 hg7; have DB7 := (D5.new (below_alloc1 (Below.refl _ _) (Nat.le_refl _) (.cells #[.int .u8 tt.v.k, .slice a5.KA tt.v.K.length a5.kc, .slice a5.VA tt.v.V.length a5.vc] 26))).grown hg7 (fun k e9 => by have := (HROW.out k e9).1; omega); have n1 := DB7.bat.c1; have k1 := DB7.bat.fz 1; have z7 := hg7.size))
      go_roundw
      case rel => exact ⟨j + 1, tt.at_, tt.e, ds ++ [(tt.v, a5)], A', c', by omega, by go_num, hle, DB7.set1 _, hl7.setLow (by omega), by have h9 := S5.out; rw [asz, put3_size, put3_size] at z7; simp [World.setCell]; omega, Lib.hid (by have := HNX.out; rw [show ensOf (ds ++ [(tt.v, a5)]) = ensOf ds ++ [tt.v] by simp [ensOf]]; exact this)⟩
      case measure => simp [intOf]; omega
    · have hex : e ≠ 0 ∨ j = m := by omega
      have HBD := Lib.hid ((HLA.out.done (f := f) hex).symm.trans HTT.out)
      obtain ⟨e9, he9⟩ : ∃ e9, doneE P at_ e = e9 := ⟨_, rfl⟩
      have HE9 := Lib.hid he9
      have HGO : Hid (j < m → e ≠ 0) := Lib.hid (fun h h2 => hgo ⟨h, h2⟩)
      clear hex hgo he9 HLA
      have hg2 : (¬ j < m) ∨ (j < m ∧ ((e : Int) == 0) = false) := by
        by_cases h : j < m
        · exact .inr ⟨h, by rw [beq_eq_false_iff_ne]; have := HGO.out h; omega⟩
        · exact .inl h
      by_cases h0 : e9 = 0
      · have hb9 : ((e9 : Int) != 0) = false := by rw [bne_eq_false_iff_eq]; omega
        have hbd := HBD.out
        rw [HE9.out, h0, if_neg (by decide)] at hbd
        subst hbd
        clear h0
        rcases hg2 with q1 | ⟨q1, q2⟩
        all_goals
          go_wp2_with (go_at_call 72; go_loud (with_reducible refine (rdoneN A P _ c at_ e _ rfl hat e9 HE9.out).mono ?_); rintro s4 w4 ⟨rfl, hb4⟩; have D4 := DD.new hb4; have x0 := D4.res.c0; have x1 := D4.res.c1; have y0 := D4.res.fz 0; have y1 := D4.res.fz 1; have n0 := D4.bat.c0; have n1 := D4.bat.c1)
        all_goals
          have hjl : j = (ensOf ds).length := by have := HEL.len; simp [ensOf]; omega
          have HE4 := ((HEL.new hb4).setLow (g := w.heap.size) (j := 0) (u := .int .u64 f) (by omega)).setLow (g := w.heap.size) (j := 1) (u := .slice A1 j c1) (by omega)
          refine bodyPost_ret (results_ddb rfl _ _ w.heap.size _ _ rfl ((D4.res.set0 (.int .u64 f)).set1 (.slice A1 j c1))) rfl ?_
          have H34 : BatAt w _ A1 (ensOf ds).length (ensOf ds) := ⟨⟨ds, rfl, by simp [ensOf], HE4.reads⟩, belowS (g := w.heap.size) (j := 1) (belowS (g := w.heap.size) (j := 0) D4.below (Nat.le_refl _) (.int .u64 f)) (Nat.le_refl _) (.slice A1 j c1)⟩
          first
            | exact ⟨A1, ⟨c1, by rw [← hjl]; rfl⟩, H34⟩
            | exact ⟨A1, c1, by rw [← hjl]; rfl, H34⟩
      · have hb9 : ((e9 : Int) != 0) = true := by rw [bne_iff_ne]; omega
        have hbd := HBD.out
        rw [HE9.out, if_pos h0] at hbd
        subst hbd
        clear h0
        rcases hg2 with q1 | ⟨q1, q2⟩
        all_goals
          go_wp2_with (go_at_call 72; go_loud (with_reducible refine (rdoneN A P _ c at_ e _ rfl hat e9 HE9.out).mono ?_); rintro s4 w4 ⟨rfl, hb4⟩; have D4 := DD.new hb4; have x0 := D4.res.c0; have x1 := D4.res.c1; have y0 := D4.res.fz 0; have y1 := D4.res.fz 1)
        all_goals
          refine bodyPost_ret (results_ddb rfl _ _ w.heap.size _ _ rfl ((D4.res.set0 (.int .u64 0)).set1 (.slice none 0 0))) rfl ?_
          have H34 : BatAt w _ none (batNo e9).l.length (batNo e9).l := ⟨⟨[], rfl, rfl, ⟨fun i hi => absurd hi (by simp), fun o ho => absurd ho (by simp)⟩⟩, belowS (g := w.heap.size) (j := 1) (belowS (g := w.heap.size) (j := 0) D4.below (Nat.le_refl _) (.int .u64 0)) (Nat.le_refl _) (.slice none 0 0)⟩
          first
            | exact ⟨none, 0, rfl, H34⟩
            | exact ⟨none, ⟨0, rfl⟩, H34⟩
end Go.Proofs.Ytelecdncdaepnaa
