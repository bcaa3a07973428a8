import Derived.Test.YtpmnnnbkbcpgjaaGreatDoorQSegLists
import Derived.Test.YtpmnnnbkbcpgjaaGreatDoorQSegAwake
import Derived.Test.YtpmnnnbkbcpgjaaGreatDoorQSegDoc
import Derived.Test.YtpmnnnbkbcpgjaaGreatDoorQSegAlike
import Derived.Test.YtpmnnnbkbcpgjaaGreatDoorQSameEntry
import Derived.Deep.CutRange
/- The walk of notarylaw08.SegmentMemory. -/
namespace Go.Proofs.YtpmnnnbkbcpgjaaGreatDoor
open Go.RowKit
attribute [local go_sem ↓] Go.wp_at_zero Go.wp_at_succ

theorem docReadB8 (P : List UInt8) (s : Seg) (hs : readF P = s) (hl : P.length ≤ 140737488355328) (m : Nat) (hm : m = s.bs.length) (A : Option Addr) (c : Nat) (w : World) (hp : RB w A c P) :
    Calls Tryz.prog 26 #[.slice A P.length c] w fun r w' => ∃ A' c' bs, r = .returned (.tuple #[.agg #[.int .u64 s.h.n, .int .u64 s.h.ep, .int .u64 s.h.f, .int .i64 s.h.w, .slice A' m c', .int .i64 s.used], .int .i64 s.e]) ∧ BL w' (w.heap.size + 1) (.slice A' m c') bs ∧ bs.map BtV.fst = s.bs ∧ Below w.heap.size w w' := by
  subst hm
  refine (docReadN A P _ c w hp rfl hl s hs).mono ?_
  rintro r w' ⟨A', c', bs, h1, h2⟩
  exact ⟨A', c', bs, h1, h2.bl, h2.eq, h2.below⟩
theorem spareN (A : Option Addr) (p : List UInt8) (N c : Nat) (w : World) (hp : RB w A c p) (hn : N = p.length) (hl : p.length ≤ 140737488355328) :
    Calls Tryz.prog 32 #[.slice A N c] w fun e w' => ∃ g, e = .returned (.tuple #[.slice (some ⟨g, 0, none⟩) N (N + 40), .slice (some ⟨g, 0, none⟩) (N + 40) (N + 40)]) ∧ g = w.heap.size ∧ OB w' g 5 (.slice (some ⟨g, 0, none⟩) (N + 40) (N + 40)) (p ++ marks 40) ∧ Below w.heap.size w w' := by
  subst hn
  exact spareX A p _ c w hp rfl hl
theorem keptN (A B : Option Addr) (c d : Nat) (p : List UInt8) (N : Nat) (w : World) (hf : RB w A c (p ++ marks 40)) (hp : RB w B d p) (hn : N = p.length) (hl : N ≤ 140737488355328) :
    Calls Tryz.prog 33 #[.slice A (N + 40) c, .slice B N d] w fun e w' => e = .returned (.bool true) ∧ Drawn w w' := by
  subst hn
  exact kept_calls A B c d p w hf hp _ rfl hl
theorem encH_len (n ep f : Nat) (w : Int) : (encH n ep f w).1.length ≤ 48 := by
  unfold encH
  split
  · rw [headL_length]; exact Nat.le_refl _
  · exact Nat.zero_le _
theorem overN (g m cap cap' M : Nat) (p : List UInt8) (w : World) (ho : OB w g 5 (.slice (some ⟨g, 0, none⟩) m cap) p) (hM : M = p.length) :
    Calls Tryz.prog 34 #[.slice (some ⟨g, 0, none⟩) M cap'] w fun e w' => e = .returned (.tuple #[]) ∧ (∃ p', OB w' g 5 (.slice (some ⟨g, 0, none⟩) m cap) p') ∧ w.grownBy w' (some g) := by
  subst hM
  exact (over_calls g g m cap cap' p [] w (by rw [List.append_nil]; exact ho)).mono fun e w' ⟨h1, h2, h3⟩ => ⟨h1, ⟨_, h2⟩, h3⟩
/-- what a step that writes the block g alone leaves -/
theorem wrRow {g b : Nat} {T : TypeId} {L : List Value} (hb : b ≠ g) {w : World} (h : Row w b T L) : Mv (Wr1 g) (fun a => Row a b T L) w := ⟨h, fun _ _ hs h => ⟨(hs.block b h.lt hb).trans h.out⟩⟩
theorem wrDuo {g b : Nat} {x y : Value} (hb : b ≠ g) {w : World} (h : Duo w b x y) : Mv (Wr1 g) (fun a => Duo a b x y) w := ⟨h, fun _ _ hs h => h.stepE hs hb⟩
theorem wrBL {g base : Nat} {v : Value} {bs : List BtV} (hg : g < base) {w : World} (h : BL w base v bs) : Mv (Wr1 g) (fun a => BL a base v bs) w := ⟨h, fun _ _ hs h => h.keep (fun k h1 h2 => hs.block k h2 (by show ¬ k = g; omega)) hs.size⟩
theorem wrEL {g base n : Nat} {v : Value} {es : List EnX} (hg : g < base) {w : World} (h : EL w base v n es) : Mv (Wr1 g) (fun a => EL a base v n es) w := ⟨h, fun _ _ hs h => h.keep (fun k h1 h2 => hs.block k h2 (by show ¬ k = g; omega))⟩
/-- a list of the call's own in blocks from lo on, below hi -/
structure Own (w : World) (lo hi : Nat) (v : Value) (p : List UInt8) : Prop where
  ob : OB w lo 5 v p
  lt : ∀ k, v.ownBlock = some k → k < hi
theorem Own.of {w w' : World} {v : Value} {p : List UInt8} (h : NewB w w' v p) : Own w' w.heap.size w'.heap.size v p := ⟨h.own, fun k hk => (h.own.at_base k hk).2⟩
theorem wrOwn {g lo hi : Nat} {v : Value} {p : List UInt8} (hg : g < lo) {w : World} (h : Own w lo hi v p) : Mv (Wr1 g) (fun a => Own a lo hi v p) w := ⟨h, fun a b hs h => ⟨(mvOB hg h.ob).m a b hs h.ob, h.lt⟩⟩
theorem Own.apt {w : World} {lo hi n c : Nat} {A : Option Addr} {p : List UInt8} (h : Own w lo hi (.slice A n c) p) (hl : n + 90 ≤ 140737488355328) : Apt w lo hi [⟨A, n, c⟩] := by
  refine ⟨fun g hg => ?_, fun g hg k hk => ?_, List.pairwise_singleton _ _, fun g hg => ?_⟩ <;> obtain rfl := List.mem_singleton.1 hg
  · exact ⟨p, h.ob⟩
  · exact h.lt k hk
  · exact hl
theorem seg_small (P : List UInt8) (bs : List BtV) (h : bs.map BtV.fst = (readF P).bs) : ∀ b ∈ bs, b.es.length ≤ 64 ∧ ∀ x ∈ b.es, x.1.K.length ≤ 64 ∧ x.1.V.length ≤ 256 := fun b hb => by
  obtain ⟨q, hq⟩ := readF_each P b.fst (by rw [← h]; exact List.mem_map.2 ⟨b, hb, rfl⟩)
  obtain ⟨_, _, _, h4, h5⟩ := encBF_ok _ _ _ hq
  have e : (ensOf b.es).length = b.es.length := by simp [ensOf]
  have h4 : (ensOf b.es).length ≤ 64 := h4
  refine ⟨by omega, fun x hx => ?_⟩
  have h6 := chk_small x.1 (h5 x.1 (List.mem_map_of_mem hx))
  exact ⟨h6.1, h6.2.1⟩
set_option maxHeartbeats 4000000 in
set_option maxRecDepth 100000 in
theorem segmentMemory_calls (A0 : Option Addr) (P : List UInt8) (N c0 : Nat) (k ep fi : Nat) (x : Int) (hk : k ≤ 18446744073709551615) (hep : ep ≤ 18446744073709551615) (hfi : fi ≤ 18446744073709551615) (f : Nat) (hf : f ≤ 18446744073709551615) (A1 : Option Addr) (es : List EnX) (n c1 : Nat) (w : World) (hL : Laid8 w) (hp : RB w A0 c0 P) (hN : N = P.length) (hN6 : N ≤ 1048576) (h : Ents w A1 es) (hn : n = es.length) (hnl : n * 56 ≤ 140737488351232) (hs0 : ∀ x ∈ es, x.1.K.length ≤ 140737488351232 ∧ x.1.V.length ≤ 140737488351232) :
    Calls Tryz.prog 10 #[.slice A0 N c0, .agg #[.int .u64 k, .int .u64 ep, .int .u64 fi, .int .i64 x], .agg #[.int .u64 f, .slice A1 n c1]] w fun r w' => r = .returned (.bool true) ∧ Below w.heap.size w w' := by
  obtain ⟨s, hs⟩ : ∃ s, readF P = s := ⟨_, rfl⟩
  obtain ⟨m, hm⟩ : ∃ m, m = s.bs.length := ⟨_, rfl⟩
  obtain ⟨q, eE, hq⟩ : ∃ q eE, segB f (ensOf es) = (q, eE) := ⟨_, _, rfl⟩
  obtain ⟨hd, eH, hhd⟩ : ∃ hd eH, encH k ep fi x = (hd, eH) := ⟨_, _, rfl⟩
  obtain ⟨nh, hnh⟩ : ∃ a, a = hd.length := ⟨_, rfl⟩
  obtain ⟨nq, hnq⟩ : ∃ a, a = q.length := ⟨_, rfl⟩
  have hmN : m ≤ N := by rw [hm, hN, ← hs]; exact readF_count P
  have hqs : nq ≤ 21862 := by have := segB_len f (ensOf es); rw [hq] at this; simp only at this; omega
  have hnh48 : nh ≤ 48 := by have := encH_len k ep fi x; rw [hhd] at this; simp only at this; omega
  have hsm : SmallEs es := fun x hx => by have := hs0 x hx; omega
  have HR1 : Hid (∀ (A : Option Addr) (c : Nat) (w : World), RB w A c P → Calls Tryz.prog 24 #[.slice A N c] w fun r w' => ∃ A' c' bs, r = .returned (.tuple #[.agg #[.int .u64 s.h.n, .int .u64 s.h.ep, .int .u64 s.h.f, .int .i64 s.h.w, .slice A' m c', .int .i64 s.used], .int .i64 s.e]) ∧ BL w' (w.heap.size + 1) (.slice A' m c') bs ∧ bs.map BtV.fst = s.bs ∧ (∀ b ∈ bs, b.s = true) ∧ Below w.heap.size w w') := Lib.hid fun A c w hp => by
    have := segReadB8 P s hs (by omega) m hm A c w hp
    rw [← hN] at this
    exact this
  have HD1 : Hid (∀ (A : Option Addr) (c : Nat) (w : World), RB w A c P → Calls Tryz.prog 26 #[.slice A N c] w fun r w' => ∃ A' c' bs, r = .returned (.tuple #[.agg #[.int .u64 s.h.n, .int .u64 s.h.ep, .int .u64 s.h.f, .int .i64 s.h.w, .slice A' m c', .int .i64 s.used], .int .i64 s.e]) ∧ BL w' (w.heap.size + 1) (.slice A' m c') bs ∧ bs.map BtV.fst = s.bs ∧ Below w.heap.size w w') := Lib.hid fun A c w hp => by
    have := docReadB8 P s hs (by omega) m hm A c w hp
    rw [← hN] at this
    exact this
  have HSM : Hid (∀ bs : List BtV, bs.map BtV.fst = s.bs → bs.length = m ∧ ∀ b ∈ bs, b.es.length ≤ 64 ∧ ∀ x ∈ b.es, x.1.K.length ≤ 64 ∧ x.1.V.length ≤ 256) := Lib.hid fun bs h => ⟨by rw [hm, ← h, List.length_map], seg_small P bs (by rw [hs]; exact h)⟩
  have HLV : Hid (∀ bs : List BtV, bs.map BtV.fst = s.bs → ∀ b ∈ bs.map BtV.view, b.es.length ≤ 9223372036854775807) := Lib.hid fun bs h b hb => by
    obtain ⟨d, hd, rfl⟩ := List.mem_map.1 hb
    have := ((HSM.out bs h).2 d hd).1
    show d.es.length ≤ 9223372036854775807
    omega
  have HN := Lib.hid hN
  have HNN := Lib.hid hn
  have HPL : Hid (P.length ≤ 140737488355328) := Lib.hid (by omega)
  have HQE := Lib.hid hq
  have HHD := Lib.hid hhd
  have HNH := Lib.hid hnh
  have HNQ := Lib.hid hnq
  have HES := Lib.hid hsm
  have hee : ((s.e : Int) != s.e) = false := bne_self_eq_false _
  have hff : ((eH : Int) != eH) = false := bne_self_eq_false _
  have hgg : ((eE : Int) != eE) = false := bne_self_eq_false _
  have HQQ := Lib.hid (beq_self_eq_true q)
  have HPP := Lib.hid (beq_self_eq_true hd)
  have hn5 : n * 56 ≤ 140737488355328 := by omega
  have hn6 : n ≤ 9223372036854775807 := by omega
  have HP := Lib.hid hp
  have HE := Lib.hid h
  have hb0 := belowA (below_alloc1 (Below.refl w.heap.size w) (Nat.le_refl _) (.cells #[.int .u64 k, .int .u64 ep, .int .u64 fi, .int .i64 x] 32)) (.cells #[.int .u64 f, .slice A1 n c1] 35)
  have hr0 := (Row.fresh w w.heap.size rfl 32 [.int .u64 k, .int .u64 ep, .int .u64 fi, .int .i64 x] #[.int .u64 k, .int .u64 ep, .int .u64 fi, .int .i64 x] rfl).new (Bl.alloc _ (.cells #[.int .u64 f, .slice A1 n c1] 35))
  have hd0 := Duo.fresh (w.alloc (.cells #[.int .u64 k, .int .u64 ep, .int .u64 fi, .int .i64 x] 32)) (w.heap.size + 1) (asz _ _) (.int .u64 f) (.slice A1 n c1) 35
  have HQ0 := Lib.hid ((bgB hb0).and ((bgRow hr0).and (bgDuo hd0)))
  have HL := Lib.hid (hL.below hb0)
  clear hs hm hq hhd hnh hnq hN hn hp h hs0 hsm hL hnl hb0 hr0 hd0
  go_enter Tryz.func10, Tryz.ntmps10
  go_upto_if 137 with (first
    | (go_at_call 12; go_loud ((with_reducible refine (awake8_calls _ HL.out).mono ?_); rintro e1 w1 ⟨rfl, hb1⟩; have HQ1 := Lib.hid (HQ0.out.step hb1); clear hb1 HQ0 HL))
    | (go_at_call 32; go_loud ((with_reducible refine (spareN A0 P N c0 _ (HP.out.new HQ1.out.h.1) HN.out HPL.out).mono ?_); rintro e2 w2 ⟨gF, rfl, hg2, ho2, hb2⟩; have hz2 : w.heap.size + 1 < gF := (by have := HQ1.out.h.2.2.lt; omega); have HG2 := Lib.hid (show w.heap.size + 1 < gF ∧ gF < w2.heap.size from ⟨hz2, (ho2.at_base gF rfl).2⟩); have HQ2 := Lib.hid ((mvB (by omega) (below_then HQ1.out.h.1 hb2) HG2.out.2).and ((wrRow (by omega) (HQ1.out.h.2.1.new hb2)).and (wrDuo (by omega) (HQ1.out.h.2.2.new hb2)))); have HF2 := Lib.hid (bgOB ho2); clear hg2 ho2 hb2 hz2 HQ1))
    | (go_at_call 24; go_loud ((with_reducible refine (HR1.out _ _ _ HF2.out.h.rb.pre).mono ?_); rintro e3 w3 ⟨A3, c3, bs3, rfl, hl3, he3, ht3, hb3⟩; have nn : Bl w3 (w3.alloc (.cells #[.int .u64 s.h.n, .int .u64 s.h.ep, .int .u64 s.h.f, .int .i64 s.h.w, .slice A3 m c3, .int .i64 s.used] 51)) := Bl.alloc _ _; have hzz := hb3.size; have hgp := HG2.out.2; have HZ3 := Lib.hid (show w2.heap.size + 1 ≤ w3.heap.size + 1 from by skip; omega); have HU3 : Hid (∀ b ∈ bs3, b.hi ≤ w3.heap.size) := Lib.hid (fun b hb => (hl3.at_ b hb).hi); have HBI3 : Hid (∀ b ∈ bs3, w2.heap.size + 1 ≤ b.lo) := Lib.hid hl3.lo; have hl9 := hl3; have HQ3 := Lib.hid (((HQ2.out.step (Wr1.new hb3)).step (Wr1.new nn)).and ((wrRow (by omega) (Row.fresh w3 w3.heap.size rfl 51 [.int .u64 s.h.n, .int .u64 s.h.ep, .int .u64 s.h.f, .int .i64 s.h.w, .slice A3 m c3, .int .i64 s.used] #[.int .u64 s.h.n, .int .u64 s.h.ep, .int .u64 s.h.f, .int .i64 s.h.w, .slice A3 m c3, .int .i64 s.used] rfl)).and ((wrBL (by omega) hl9).step (Wr1.new nn)))); have HF3 := Lib.hid ((HF2.out.step hb3).step nn); have HE3 := Lib.hid he3; have HT3 := Lib.hid ht3; clear nn hzz hgp hl3 he3 ht3 hb3 hl9 HQ2 HF2))
    | (go_at_call 24; go_loud ((with_reducible refine (HR1.out _ _ _ HF3.out.h.rb.pre).mono ?_); rintro e4 w4 ⟨A4, c4, bs4, rfl, hl4, he4, ht4, hb4⟩; have nn : Bl w4 (w4.alloc (.cells #[.int .u64 s.h.n, .int .u64 s.h.ep, .int .u64 s.h.f, .int .i64 s.h.w, .slice A4 m c4, .int .i64 s.used] 51)) := Bl.alloc _ _; have hzz := hb4.size; have hgp := HG2.out.2; rw [asz] at hzz; have hz3 := HZ3.out; have HZ4 := Lib.hid (show w3.heap.size + 1 + 1 ≤ w4.heap.size + 1 from by skip; omega); have HU4 : Hid (∀ b ∈ bs4, b.hi ≤ w4.heap.size) := Lib.hid (fun b hb => (hl4.at_ b hb).hi); have HBI4 : Hid (∀ b ∈ bs4, w3.heap.size + 1 + 1 ≤ b.lo) := Lib.hid (show BL w4 (w3.heap.size + 1 + 1) _ _ by rw [← asz w3 (.cells #[.int .u64 s.h.n, .int .u64 s.h.ep, .int .u64 s.h.f, .int .i64 s.h.w, .slice A3 m c3, .int .i64 s.used] 51)]; exact hl4).lo; have hl9 := (show BL w4 (w3.heap.size + 1 + 1) _ _ by rw [← asz w3 (.cells #[.int .u64 s.h.n, .int .u64 s.h.ep, .int .u64 s.h.f, .int .i64 s.h.w, .slice A3 m c3, .int .i64 s.used] 51)]; exact hl4); have HQ4 := Lib.hid (((HQ3.out.step (Wr1.new hb4)).step (Wr1.new nn)).and ((wrRow (by omega) (Row.fresh w4 w4.heap.size rfl 51 [.int .u64 s.h.n, .int .u64 s.h.ep, .int .u64 s.h.f, .int .i64 s.h.w, .slice A4 m c4, .int .i64 s.used] #[.int .u64 s.h.n, .int .u64 s.h.ep, .int .u64 s.h.f, .int .i64 s.h.w, .slice A4 m c4, .int .i64 s.used] rfl)).and ((wrBL (by omega) hl9).step (Wr1.new nn)))); have HF4 := Lib.hid ((HF3.out.step hb4).step nn); have HE4 := Lib.hid he4; have HT4 := Lib.hid ht4; clear nn hzz hgp hl4 he4 ht4 hb4 hl9 HQ3 HF3))
    | (go_at_call 26; go_loud ((with_reducible refine (HD1.out _ _ _ (HP.out.new HQ4.out.h.1.1.1.1)).mono ?_); rintro e5 w5 ⟨A5, c5, bs5, rfl, hl5, he5, hb5⟩; have nn : Bl w5 (w5.alloc (.cells #[.int .u64 s.h.n, .int .u64 s.h.ep, .int .u64 s.h.f, .int .i64 s.h.w, .slice A5 m c5, .int .i64 s.used] 56)) := Bl.alloc _ _; have hzz := hb5.size; have hgp := HG2.out.2; rw [asz] at hzz; have hz3 := HZ3.out; have hz4 := HZ4.out; have HZ5 := Lib.hid (show w4.heap.size + 1 ≤ w5.heap.size from hzz); have HQ5 := Lib.hid (((HQ4.out.step (Wr1.new hb5)).step (Wr1.new nn)).and ((wrRow (by omega) (Row.fresh w5 w5.heap.size rfl 56 [.int .u64 s.h.n, .int .u64 s.h.ep, .int .u64 s.h.f, .int .i64 s.h.w, .slice A5 m c5, .int .i64 s.used] #[.int .u64 s.h.n, .int .u64 s.h.ep, .int .u64 s.h.f, .int .i64 s.h.w, .slice A5 m c5, .int .i64 s.used] rfl)).and ((wrBL (by rw [asz]; omega) hl5).step (Wr1.new nn)))); have HF5 := Lib.hid ((HF4.out.step hb5).step nn); have HE5 := Lib.hid he5; clear nn hzz hgp hz3 hz4 hl5 he5 hb5 HQ4 HF4; have x0 := (HQ5.out.h.1.1.2.1).c 0 _ rfl; have x1 := (HQ5.out.h.1.1.2.1).c 1 _ rfl; have x2 := (HQ5.out.h.1.1.2.1).c 2 _ rfl; have x3 := (HQ5.out.h.1.1.2.1).c 3 _ rfl; have x4 := (HQ5.out.h.1.1.2.1).c 4 _ rfl; have x5 := (HQ5.out.h.1.1.2.1).c 5 _ rfl; have d0 := (HQ5.out.h.2.1).c 0 _ rfl; have d1 := (HQ5.out.h.2.1).c 1 _ rfl; have d2 := (HQ5.out.h.2.1).c 2 _ rfl; have d3 := (HQ5.out.h.2.1).c 3 _ rfl; have d4 := (HQ5.out.h.2.1).c 4 _ rfl; have d5 := (HQ5.out.h.2.1).c 5 _ rfl))
    | (go_at_call 27; go_loud ((with_reducible refine (alike_calls s.h.n s.h.ep s.h.f s.h.w s.used s.e m A3 A5 c3 c5 (bs3.map BtV.view) (bs5.map BtV.view) _ (HQ5.out.h.1.1.2.2.view) (HQ5.out.h.2.2.view) (by rw [List.length_map]; exact (HSM.out _ HE3.out).1.symm) (by rw [view_fst, view_fst, HE3.out, HE5.out]) (by omega) (HLV.out _ HE3.out)).mono ?_); rintro e6 w6 ⟨rfl, hb6⟩; have hzz := hb6.size; rw [asz] at hzz; have HZ6 := Lib.hid hzz; clear hzz; have HQ6 := Lib.hid (HQ5.out.step (Wr1.new hb6)); have HF6 := Lib.hid (HF5.out.step hb6); clear hb6 HQ5 HF5 x0 x1 x2 x3 x4 x5 d0 d1 d2 d3 d4 d5; have x0 := (HQ6.out.h.1.2.1).c 0 _ rfl; have x1 := (HQ6.out.h.1.2.1).c 1 _ rfl; have x2 := (HQ6.out.h.1.2.1).c 2 _ rfl; have x3 := (HQ6.out.h.1.2.1).c 3 _ rfl; have x4 := (HQ6.out.h.1.2.1).c 4 _ rfl; have x5 := (HQ6.out.h.1.2.1).c 5 _ rfl; have d0 := (HQ6.out.h.2.1).c 0 _ rfl; have d1 := (HQ6.out.h.2.1).c 1 _ rfl; have d2 := (HQ6.out.h.2.1).c 2 _ rfl; have d3 := (HQ6.out.h.2.1).c 3 _ rfl; have d4 := (HQ6.out.h.2.1).c 4 _ rfl; have d5 := (HQ6.out.h.2.1).c 5 _ rfl))
    | (go_at_call 27; go_loud ((with_reducible refine (alike_calls s.h.n s.h.ep s.h.f s.h.w s.used s.e m A4 A5 c4 c5 (bs4.map BtV.view) (bs5.map BtV.view) _ (HQ6.out.h.1.2.2.view) (HQ6.out.h.2.2.view) (by rw [List.length_map]; exact (HSM.out _ HE4.out).1.symm) (by rw [view_fst, view_fst, HE4.out, HE5.out]) (by omega) (HLV.out _ HE4.out)).mono ?_); rintro e7 w7 ⟨rfl, hb7⟩; have HZ7 := Lib.hid hb7.size; have HQ7 := Lib.hid (HQ6.out.step (Wr1.new hb7)); have HF7 := Lib.hid (HF6.out.step hb7); clear hb7 HQ6 HF6 x0 x1 x2 x3 x4 x5 d0 d1 d2 d3 d4 d5))
    | (go_at_call 33; go_loud ((with_reducible refine (keptN (some ⟨gF, 0, none⟩) A0 _ c0 P N _ HF7.out.h.rb (HP.out.new HQ7.out.h.1.1.1.1.1) HN.out (by omega)).mono ?_); rintro e8 w8 ⟨rfl, hd8⟩; have HZ8 := Lib.hid (hd8.below 0).size; have HQ8 := Lib.hid (HQ7.out.step (Wr1.new (hd8.below _))); have HF8 := Lib.hid (HF7.out.step (hd8.below _)); clear hd8 HQ7 HF7; have h0 := (HQ8.out.h.1.1.1.2.1).c 0 _ rfl; have h1 := (HQ8.out.h.1.1.1.2.1).c 1 _ rfl; have h2 := (HQ8.out.h.1.1.1.2.1).c 2 _ rfl; have h3 := (HQ8.out.h.1.1.1.2.1).c 3 _ rfl))
    | (go_at_call 17; go_loud ((with_reducible refine (encHeadN k ep fi x hk hep hfi hd eH HHD.out nh HNH.out w8).mono ?_); rintro e9 w9 ⟨A9, c9, rfl, hn9⟩; have hgp := HQ8.out.h.1.1.1.1.2; have HQ9 := Lib.hid ((HQ8.out.step (Wr1.new hn9.below)).and (wrOwn hgp (Own.of hn9))); have HF9 := Lib.hid (HF8.out.step hn9.below); have HZ9 := Lib.hid hn9.below.size; clear hgp hn9 h0 h1 h2 h3; have h0 := (HQ9.out.h.1.1.1.1.2.1).c 0 _ rfl; have h1 := (HQ9.out.h.1.1.1.1.2.1).c 1 _ rfl; have h2 := (HQ9.out.h.1.1.1.1.2.1).c 2 _ rfl; have h3 := (HQ9.out.h.1.1.1.1.2.1).c 3 _ rfl))
    | (go_at_call 17; go_loud ((with_reducible refine (encHeadN k ep fi x hk hep hfi hd eH HHD.out nh HNH.out w9).mono ?_); rintro e10 w10 ⟨A10, c10, rfl, hn10⟩; have hgp := HQ9.out.h.1.1.1.1.1.2; have HQ10 := Lib.hid ((HQ9.out.step (Wr1.new hn10.below)).and (wrOwn hgp (Own.of hn10))); have HF10 := Lib.hid (HF9.out.step hn10.below); have HZ10 := Lib.hid hn10.below.size; clear hgp hn10 h0 h1 h2 h3; have h0 := HQ10.out.h.1.1.1.1.1.2.2.c0; have h1 := HQ10.out.h.1.1.1.1.1.2.2.c1))
    | (go_at_call 21; go_loud ((with_reducible refine (twinB_calls f A1 es n c1 _ (HE.out.new HQ10.out.h.1.1.1.1.1.1.1) HNN.out hn5 HES.out).mono ?_); rintro e11 w11 ⟨A11, c11, ds, rfl, hl11, he11, hb11⟩; have nn : Bl w11 (w11.alloc (.cells #[.int .u64 f, .slice A11 n c11] 35)) := Bl.alloc _ _; have hgp := HQ10.out.h.1.1.1.1.1.1.2; have hzz := hb11.size; have HQ11 := Lib.hid (((HQ10.out.step (Wr1.new hb11)).step (Wr1.new nn)).and ((wrDuo (by omega) (Duo.fresh w11 w11.heap.size rfl (.int .u64 f) (.slice A11 n c11) 35)).and ((wrEL hgp hl11).step (Wr1.new nn)))); have HF11 := Lib.hid ((HF10.out.step hb11).step nn); have HZ11 := Lib.hid hzz; have HE11 := Lib.hid he11; have HL11 := Lib.hid hl11.len; clear nn hgp hzz hl11 he11 hb11 h0 h1; have h0 := HQ11.out.h.2.1.c0; have h1 := HQ11.out.h.2.1.c1))
    | (go_at_call 20; go_loud ((with_reducible refine (segBatch_calls f _ rfl hf A11 n c11 ds _ HQ11.out.h.2.2.reads HL11.out hn6 q eE (by rw [HE11.out]; exact HQE.out) nq HNQ.out).mono ?_); rintro e12 w12 ⟨A12, c12, rfl, hn12⟩; have hgp := HQ11.out.h.1.1.1.1.1.1.1.2; have HZ12 := Lib.hid (show w11.heap.size + 1 ≤ w12.heap.size by have := hn12.below.size; rw [asz] at this; exact this); have HQ12 := Lib.hid ((HQ11.out.step (Wr1.new hn12.below)).and (wrOwn hgp (Own.of hn12))); have HF12 := Lib.hid (HF11.out.step hn12.below); clear hgp hn12 h0 h1; have h0 := HQ12.out.h.1.2.1.c0; have h1 := HQ12.out.h.1.2.1.c1))
    | (go_at_call 20; go_loud ((with_reducible refine (segBatch_calls f _ rfl hf A11 n c11 ds _ HQ12.out.h.1.2.2.reads HL11.out hn6 q eE (by rw [HE11.out]; exact HQE.out) nq HNQ.out).mono ?_); rintro e13 w13 ⟨A13, c13, rfl, hn13⟩; have hgp := HQ12.out.h.1.1.1.1.1.1.1.1.2; have HZ13 := Lib.hid hn13.below.size; have HQ13 := Lib.hid ((HQ12.out.step (Wr1.new hn13.below)).and ((wrOwn hgp (Own.of hn13)).and (mvS (Nat.le_refl w13.heap.size)))); have HF13 := Lib.hid (HF12.out.step hn13.below); clear hgp hn13 h0 h1 HQ8 HQ9 HQ10 HQ11 HQ12 HF8 HF9 HF10 HF11 HF12))
    | (go_at_call 23; go_loud ((with_reducible refine (sameR A9 A10 hd hd _ _ c9 c10 _ HQ13.out.h.1.1.1.1.2.ob.rb HQ13.out.h.1.1.1.2.ob.rb HNH.out HNH.out true HPP.out).mono ?_); rintro e14 w14 ⟨rfl, hd14⟩; have HQ14 := Lib.hid (HQ13.out.step (Wr1.new (hd14.below _))); have HF14 := Lib.hid (HF13.out.step (hd14.below _)); clear hd14))
    | (go_at_call 23; go_loud ((with_reducible refine (sameR A12 A13 q q _ _ c12 c13 _ HQ14.out.h.1.2.ob.rb HQ14.out.h.2.1.ob.rb HNQ.out HNQ.out true HQQ.out).mono ?_); rintro e15 w15 ⟨rfl, hd15⟩; have HQ15 := Lib.hid (HQ14.out.step (Wr1.new (hd15.below _))); have HF15 := Lib.hid (HF14.out.step (hd15.below _)); clear hd15 HQ13 HQ14 HF13 HF14; have h0 := HQ15.out.h.1.1.1.1.1.1.1.1.2.2.c0; have h1 := HQ15.out.h.1.1.1.1.1.1.1.1.2.2.c1; have i0 := HQ15.out.h.1.1.2.1.c0; have i1 := HQ15.out.h.1.1.2.1.c1))
    | (go_at_call 31; go_loud ((with_reducible refine (sameB_calls f A1 A11 es ds _ _ c1 c11 HNN.out HNN.out _ (HE.out.new HQ15.out.h.1.1.1.1.1.1.1.1.1.1) HQ15.out.h.1.1.2.2.reads HE11.out.symm hn6).mono ?_); rintro e16 w16 ⟨rfl, hb16⟩; have HQ16 := Lib.hid (HQ15.out.step (Wr1.new hb16)); have HF16 := Lib.hid (HF15.out.step hb16); clear hb16 HQ15 HF15 h0 h1 i0 i1))
    | (go_at_call 25; go_loud ((with_reducible refine (twinR A9 hd _ c9 _ HQ16.out.h.1.1.1.1.2.ob.rb HNH.out (by rw [← HNH.out]; omega)).mono ?_); rintro e17 w17 ⟨A17, c17, rfl, hn17⟩; have hgp := HQ16.out.h.1.1.1.1.1.1.1.1.1.2; have HQ17 := Lib.hid ((HQ16.out.step (Wr1.new hn17.below)).and (wrOwn hgp (Own.of hn17))); have HF17 := Lib.hid (HF16.out.step hn17.below); clear hgp hn17 HQ16 HF16))
    | (go_at_call 25; go_loud ((with_reducible refine (twinR A12 q _ c12 _ HQ17.out.h.1.1.2.ob.rb HNQ.out (by rw [← HNQ.out]; omega)).mono ?_); rintro e18 w18 ⟨A18, c18, rfl, hn18⟩; have hgp := HQ17.out.h.1.1.1.1.1.1.1.1.1.1.2; have HQ18 := Lib.hid ((HQ17.out.step (Wr1.new hn18.below)).and (wrOwn hgp (Own.of hn18))); have HF18 := Lib.hid (HF17.out.step hn18.below); clear hgp hn18 HQ17 HF17))
    | (go_at_call 24; go_loud ((with_reducible refine (HR1.out _ _ _ HF18.out.h.rb.pre).mono ?_); rintro e19 w19 ⟨A19, c19, bs19, rfl, hl19, he19, ht19, hb19⟩; have HQ19 := Lib.hid (HQ18.out.step (Wr1.new hb19)); have HF19 := Lib.hid (HF18.out.step hb19); clear hl19 he19 ht19 hb19 HQ18 HF18)))
  obtain ⟨Q, hQ, HQ⟩ := HQ19.out.name
  have HQ := Lib.hid HQ
  have HQEQ := Lib.hid hQ
  clear hQ HQ19
  go_cut [] from 138 (fun wx => ∃ P2 : List UInt8, P2.length = N ∧ OB wx gF 5 (.slice (some ⟨gF, 0, none⟩) (N + 40) (N + 40)) (P2 ++ marks 40) ∧ Mv (Wr1 gF) Q wx)
  case first =>
    by_cases h0 : 0 < N
    · obtain ⟨N1, rfl⟩ : ∃ N1, N = N1 + 1 := ⟨N - 1, by omega⟩
      have hlp : N1 < (P ++ marks 40).length := by rw [List.length_append, ← HN.out]; omega
      have hlq : N1 < P.length := by rw [← HN.out]; omega
      obtain ⟨hc, hf⟩ := HF19.out.h.cell N1 hlp
      rw [List.getElem_append_left hlq] at hc
      obtain ⟨b, hb⟩ : ∃ b, b = P[N1] := ⟨_, rfl⟩
      rw [← hb] at hc
      obtain ⟨hs1, hs2⟩ := HF19.out.h.set N1 (b ^^^ 1)
      rw [List.set_append_left _ _ hlq] at hs1
      have hx : bits .xor .u8 (uB b) 1 = uB (b ^^^ 1) := bits_xor_u8M _ 1
      clear hb
      have HS1 := Lib.hid hs1
      have HS2 := Lib.hid hs2
      clear hs1 hs2
      go_wp2
      go_meet
      exact ⟨_, by rw [List.length_set, ← HN.out], HS1.out, HQ.out.step (Wr1.row HS2.out)⟩
    · go_wp2
      go_meet
      exact ⟨P, HN.out.symm, HF19.out.h, HQ.out⟩
  case rest =>
    obtain ⟨P2, hP2, hO2, hQ2⟩ := hcut
    rw [HQEQ.out] at hQ2
    obtain ⟨wX, hwX⟩ : ∃ x, x = wc := ⟨_, rfl⟩
    subst hwX
    obtain ⟨s2, hs2⟩ : ∃ s, readF P2 = s := ⟨_, rfl⟩
    obtain ⟨m2, hm2⟩ : ∃ m, m = s2.bs.length := ⟨_, rfl⟩
    have hmN2 : m2 ≤ N := by rw [hm2, ← hP2, ← hs2]; exact readF_count P2
    have HR2 : Hid (∀ (A : Option Addr) (c : Nat) (w : World), RB w A c P2 → Calls Tryz.prog 24 #[.slice A N c] w fun r w' => ∃ A' c' bs, r = .returned (.tuple #[.agg #[.int .u64 s2.h.n, .int .u64 s2.h.ep, .int .u64 s2.h.f, .int .i64 s2.h.w, .slice A' m2 c', .int .i64 s2.used], .int .i64 s2.e]) ∧ BL w' (w.heap.size + 1) (.slice A' m2 c') bs ∧ bs.map BtV.fst = s2.bs ∧ (∀ b ∈ bs, b.s = true) ∧ Below w.heap.size w w') := Lib.hid fun A c w hp => by
      have := segReadB8 P2 s2 hs2 (by omega) m2 hm2 A c w hp
      rw [hP2] at this
      exact this
    have HD2 : Hid (∀ (A : Option Addr) (c : Nat) (w : World), RB w A c P2 → Calls Tryz.prog 26 #[.slice A N c] w fun r w' => ∃ A' c' bs, r = .returned (.tuple #[.agg #[.int .u64 s2.h.n, .int .u64 s2.h.ep, .int .u64 s2.h.f, .int .i64 s2.h.w, .slice A' m2 c', .int .i64 s2.used], .int .i64 s2.e]) ∧ BL w' (w.heap.size + 1) (.slice A' m2 c') bs ∧ bs.map BtV.fst = s2.bs ∧ Below w.heap.size w w') := Lib.hid fun A c w hp => by
      have := docReadB8 P2 s2 hs2 (by omega) m2 hm2 A c w hp
      rw [hP2] at this
      exact this
    have HLV2 : Hid (∀ bs : List BtV, bs.map BtV.fst = s2.bs → bs.length = m2 ∧ ∀ b ∈ bs.map BtV.view, b.es.length ≤ 9223372036854775807) := Lib.hid fun bs h => ⟨by rw [hm2, ← h, List.length_map], fun b hb => by
      obtain ⟨d, hd, rfl⟩ := List.mem_map.1 hb
      have := (seg_small P2 bs (by rw [hs2]; exact h) d hd).1
      show d.es.length ≤ 9223372036854775807
      omega⟩
    have HX0 := Lib.hid hQ2
    have HG0 := Lib.hid (bgOB hO2)
    have HP2 := Lib.hid hP2
    have hee2 : ((s2.e : Int) == s2.e) = true := beq_self_eq_true _
    clear hs2 hm2 hP2 hO2 hQ2 HQ HQEQ HF19 HR1 HD1
    go_upto_region 27 with (first
      | (go_at_call 24; go_loud ((with_reducible refine (HR2.out _ _ _ HG0.out.h.rb.pre).mono ?_); rintro e20 w20 ⟨A20, c20, bs20, rfl, hl20, he20, ht20, hb20⟩; have nn : Bl w20 (w20.alloc (.cells #[.int .u64 s2.h.n, .int .u64 s2.h.ep, .int .u64 s2.h.f, .int .i64 s2.h.w, .slice A20 m2 c20, .int .i64 s2.used] 51)) := Bl.alloc _ _; have hgp := HX0.out.h.1.1.1.1.1.1.1.1.1.1.1.2; have hzz := hb20.size; have HX1 := Lib.hid (((HX0.out.step (Wr1.new hb20)).step (Wr1.new nn)).and ((wrRow (by omega) (Row.fresh w20 w20.heap.size rfl 51 [.int .u64 s2.h.n, .int .u64 s2.h.ep, .int .u64 s2.h.f, .int .i64 s2.h.w, .slice A20 m2 c20, .int .i64 s2.used] #[.int .u64 s2.h.n, .int .u64 s2.h.ep, .int .u64 s2.h.f, .int .i64 s2.h.w, .slice A20 m2 c20, .int .i64 s2.used] rfl)).and ((wrBL (by omega) hl20).step (Wr1.new nn)))); have HG1 := Lib.hid ((HG0.out.step hb20).step nn); have HE20 := Lib.hid he20; clear nn hgp hzz hl20 he20 ht20 hb20 HX0 HG0))
      | (go_at_call 25; go_loud ((with_reducible refine (twinR (some ⟨gF, 0, none⟩) P2 N (N + 40) _ HG1.out.h.rb.pre HP2.out.symm (by rw [HP2.out]; omega)).mono ?_); rintro e21 w21 ⟨A21, c21, rfl, hn21⟩; have HX2 := Lib.hid (HX1.out.step (Wr1.new hn21.below)); have HG2x := Lib.hid (HG1.out.step hn21.below); have HP21 := Lib.hid hn21.own.rb; clear hn21 HX1 HG1))
      | (go_at_call 26; go_loud ((with_reducible refine (HD2.out _ _ _ HP21.out).mono ?_); rintro e22 w22 ⟨A22, c22, bs22, rfl, hl22, he22, hb22⟩; have nn : Bl w22 (w22.alloc (.cells #[.int .u64 s2.h.n, .int .u64 s2.h.ep, .int .u64 s2.h.f, .int .i64 s2.h.w, .slice A22 m2 c22, .int .i64 s2.used] 56)) := Bl.alloc _ _; have hgp := HX2.out.h.1.1.1.1.1.1.1.1.1.1.1.1.2; have hzz := hb22.size; have HX3 := Lib.hid (((HX2.out.step (Wr1.new hb22)).step (Wr1.new nn)).and ((wrRow (by omega) (Row.fresh w22 w22.heap.size rfl 56 [.int .u64 s2.h.n, .int .u64 s2.h.ep, .int .u64 s2.h.f, .int .i64 s2.h.w, .slice A22 m2 c22, .int .i64 s2.used] #[.int .u64 s2.h.n, .int .u64 s2.h.ep, .int .u64 s2.h.f, .int .i64 s2.h.w, .slice A22 m2 c22, .int .i64 s2.used] rfl)).and ((wrBL (by omega) hl22).step (Wr1.new nn)))); have HG3 := Lib.hid ((HG2x.out.step hb22).step nn); have HE22 := Lib.hid he22; clear nn hgp hzz hl22 he22 hb22 HX2 HG2x HP21; have x0 := (HX3.out.h.1.2.1).c 0 _ rfl; have x1 := (HX3.out.h.1.2.1).c 1 _ rfl; have x2 := (HX3.out.h.1.2.1).c 2 _ rfl; have x3 := (HX3.out.h.1.2.1).c 3 _ rfl; have x4 := (HX3.out.h.1.2.1).c 4 _ rfl; have x5 := (HX3.out.h.1.2.1).c 5 _ rfl; have d0 := (HX3.out.h.2.1).c 0 _ rfl; have d1 := (HX3.out.h.2.1).c 1 _ rfl; have d2 := (HX3.out.h.2.1).c 2 _ rfl; have d3 := (HX3.out.h.2.1).c 3 _ rfl; have d4 := (HX3.out.h.2.1).c 4 _ rfl; have d5 := (HX3.out.h.2.1).c 5 _ rfl))
      | (go_at_call 27; go_loud ((with_reducible refine (alike_calls s2.h.n s2.h.ep s2.h.f s2.h.w s2.used s2.e m2 A20 A22 c20 c22 (bs20.map BtV.view) (bs22.map BtV.view) _ HX3.out.h.1.2.2.view HX3.out.h.2.2.view (by rw [List.length_map]; exact (HLV2.out _ HE20.out).1.symm) (by rw [view_fst, view_fst, HE20.out, HE22.out]) (by omega) (HLV2.out _ HE20.out).2).mono ?_); rintro e23 w23 ⟨rfl, hb23⟩; have HX4 := Lib.hid (HX3.out.step (Wr1.new hb23)); have HG4 := Lib.hid (HG3.out.step hb23); clear hb23 HX3 HG3 x0 x1 x2 x3 x4 x5 d0 d1 d2 d3 d4 d5))
      | (go_at_call 34; go_loud ((with_reducible refine (overN gF (N + 40) (N + 40) (N + 40) (N + 40) (P2 ++ marks 40) _ HG4.out.h (by rw [List.length_append, HP2.out, marks_length])).mono ?_); rintro e24 w24 ⟨rfl, ⟨P3, ho24⟩, hg24⟩; have HX5 := Lib.hid (HX4.out.step (Wr1.row hg24)); have HG5 := Lib.hid (bgOB ho24); clear ho24 hg24 HX4 HG4; have x0 := (HX5.out.h.1.1.1.1.1.1.1.1.1.1.1.2.1).c 0 _ rfl; have x1 := (HX5.out.h.1.1.1.1.1.1.1.1.1.1.1.2.1).c 1 _ rfl; have x2 := (HX5.out.h.1.1.1.1.1.1.1.1.1.1.1.2.1).c 2 _ rfl; have x3 := (HX5.out.h.1.1.1.1.1.1.1.1.1.1.1.2.1).c 3 _ rfl; have x4 := (HX5.out.h.1.1.1.1.1.1.1.1.1.1.1.2.1).c 4 _ rfl; have x5 := (HX5.out.h.1.1.1.1.1.1.1.1.1.1.1.2.1).c 5 _ rfl; have d0 := (HX5.out.h.1.1.1.1.1.1.1.1.1.2.1).c 0 _ rfl; have d1 := (HX5.out.h.1.1.1.1.1.1.1.1.1.2.1).c 1 _ rfl; have d2 := (HX5.out.h.1.1.1.1.1.1.1.1.1.2.1).c 2 _ rfl; have d3 := (HX5.out.h.1.1.1.1.1.1.1.1.1.2.1).c 3 _ rfl; have d4 := (HX5.out.h.1.1.1.1.1.1.1.1.1.2.1).c 4 _ rfl; have d5 := (HX5.out.h.1.1.1.1.1.1.1.1.1.2.1).c 5 _ rfl))
      | (go_at_call 27; go_loud ((with_reducible refine (alike_calls s.h.n s.h.ep s.h.f s.h.w s.used s.e m A3 A5 c3 c5 (bs3.map BtV.view) (bs5.map BtV.view) _ (HX5.out.h.1.1.1.1.1.1.1.1.1.1.1.2.2.view) (HX5.out.h.1.1.1.1.1.1.1.1.1.2.2.view) (by rw [List.length_map]; exact (HSM.out _ HE3.out).1.symm) (by rw [view_fst, view_fst, HE3.out, HE5.out]) (by omega) (HLV.out _ HE3.out)).mono ?_); rintro e25 w25 ⟨rfl, hb25⟩; have HX6 := Lib.hid (HX5.out.step (Wr1.new hb25)); have HG6 := Lib.hid (HG5.out.step hb25); clear hb25 HX5 HG5 x0 x1 x2 x3 x4 x5 d0 d1 d2 d3 d4 d5; have x0 := (HX6.out.h.1.1.1.1.1.1.1.1.1.1.2.1).c 0 _ rfl; have x1 := (HX6.out.h.1.1.1.1.1.1.1.1.1.1.2.1).c 1 _ rfl; have x2 := (HX6.out.h.1.1.1.1.1.1.1.1.1.1.2.1).c 2 _ rfl; have x3 := (HX6.out.h.1.1.1.1.1.1.1.1.1.1.2.1).c 3 _ rfl; have x4 := (HX6.out.h.1.1.1.1.1.1.1.1.1.1.2.1).c 4 _ rfl; have x5 := (HX6.out.h.1.1.1.1.1.1.1.1.1.1.2.1).c 5 _ rfl; have d0 := (HX6.out.h.1.1.1.1.1.1.1.1.1.2.1).c 0 _ rfl; have d1 := (HX6.out.h.1.1.1.1.1.1.1.1.1.2.1).c 1 _ rfl; have d2 := (HX6.out.h.1.1.1.1.1.1.1.1.1.2.1).c 2 _ rfl; have d3 := (HX6.out.h.1.1.1.1.1.1.1.1.1.2.1).c 3 _ rfl; have d4 := (HX6.out.h.1.1.1.1.1.1.1.1.1.2.1).c 4 _ rfl; have d5 := (HX6.out.h.1.1.1.1.1.1.1.1.1.2.1).c 5 _ rfl))
      | (go_at_call 27; go_loud ((with_reducible refine (alike_calls s.h.n s.h.ep s.h.f s.h.w s.used s.e m A4 A5 c4 c5 (bs4.map BtV.view) (bs5.map BtV.view) _ (HX6.out.h.1.1.1.1.1.1.1.1.1.1.2.2.view) (HX6.out.h.1.1.1.1.1.1.1.1.1.2.2.view) (by rw [List.length_map]; exact (HSM.out _ HE4.out).1.symm) (by rw [view_fst, view_fst, HE4.out, HE5.out]) (by omega) (HLV.out _ HE4.out)).mono ?_); rintro e26 w26 ⟨rfl, hb26⟩; have HX7 := Lib.hid (HX6.out.step (Wr1.new hb26)); have HG7 := Lib.hid (HG6.out.step hb26); clear hb26 HX6 HG6 x0 x1 x2 x3 x4 x5 d0 d1 d2 d3 d4 d5))
      | (go_at_call 23; go_loud ((with_reducible refine (sameR A9 A17 hd hd _ _ c9 c17 _ HX7.out.h.1.1.1.1.1.1.1.1.2.ob.rb HX7.out.h.1.1.1.2.ob.rb HNH.out HNH.out true HPP.out).mono ?_); rintro e27 w27 ⟨rfl, hd27⟩; have HX8 := Lib.hid (HX7.out.step (Wr1.new (hd27.below _))); have HG8 := Lib.hid (HG7.out.step (hd27.below _)); clear hd27 HX7 HG7))
      | (go_at_call 23; go_loud ((with_reducible refine (sameR A12 A18 q q _ _ c12 c18 _ HX8.out.h.1.1.1.1.1.2.ob.rb HX8.out.h.1.1.2.ob.rb HNQ.out HNQ.out true HQQ.out).mono ?_); rintro e28 w28 ⟨rfl, hd28⟩; have HX9 := Lib.hid (HX8.out.step (Wr1.new (hd28.below _))); have HG9 := Lib.hid (HG8.out.step (hd28.below _)); clear hd28 HX8 HG8)))
    have HL64 : Hid (∀ bs : List BtV, bs.map BtV.fst = s.bs → m = (bs.map BtV.view).length ∧ ∀ b ∈ bs.map BtV.view, b.es.length ≤ 64) := Lib.hid fun bs h => ⟨by rw [List.length_map]; exact (HSM.out bs h).1.symm, fun b hb => by
      obtain ⟨d, hd, rfl⟩ := List.mem_map.1 hb
      exact ((HSM.out bs h).2 d hd).1⟩
    have hn3 : (hdsV (bs3.map BtV.view)).length ≤ 128 * m := by
      have := hdsV_length (bs3.map BtV.view) (HL64.out _ HE3.out).2
      rw [← (HL64.out _ HE3.out).1] at this; exact this
    have hn4 : (hdsV (bs4.map BtV.view)).length ≤ 128 * m := by
      have := hdsV_length (bs4.map BtV.view) (HL64.out _ HE4.out).2
      rw [← (HL64.out _ HE4.out).1] at this; exact this
    have HLEN3 := Lib.hid hn3
    have HLEN4 := Lib.hid hn4
    have HAPT : Hid (Apt w28 gF w28.heap.size ((hdsV (bs3.map BtV.view) ++ hdsV (bs4.map BtV.view)) ++ [⟨some ⟨gF, 0, none⟩, N + 40, N + 40⟩, ⟨A9, nh, c9⟩, ⟨A10, nh, c10⟩, ⟨A12, nq, c12⟩, ⟨A13, nq, c13⟩])) := Lib.hid (by
      have z2 := HG2.out.2
      have z3 := HZ3.out
      have z4 := HZ4.out
      have z5 := HZ5.out
      have z6 := HZ6.out
      have z7 := HZ7.out
      have z8 := HZ8.out
      have z9 := HZ9.out
      have z10 := HZ10.out
      have z11 := HZ11.out
      have z12 := HZ12.out
      have z13 := HZ13.out
      have z14 := HX9.out.h.1.1.1.1.2.2
      have a3 : Apt w28 (w2.heap.size + 1) (w3.heap.size + 1) _ := (HX9.out.h.1.1.1.1.1.1.1.1.1.1.1.2.2).apt HT3.out HBI3.out (fun b hb => Nat.le_succ_of_le (HU3.out b hb)) (fun b hb => ((HSM.out _ HE3.out).2 b hb).2) (by omega)
      have a4 : Apt w28 (w3.heap.size + 1 + 1) (w4.heap.size + 1) _ := (HX9.out.h.1.1.1.1.1.1.1.1.1.1.2.2).apt HT4.out HBI4.out (fun b hb => Nat.le_succ_of_le (HU4.out b hb)) (fun b hb => ((HSM.out _ HE4.out).2 b hb).2) (by omega)
      have aF : Apt w28 gF (gF + 1) [⟨some ⟨gF, 0, none⟩, N + 40, N + 40⟩] := Apt.at_ HG9.out.h (by omega)
      have aX := (HX9.out.h.1.1.1.1.1.1.1.1.2).apt (by omega)
      have aY := (HX9.out.h.1.1.1.1.1.1.1.2).apt (by omega)
      have aU := (HX9.out.h.1.1.1.1.1.2).apt (by omega)
      have aV := (HX9.out.h.1.1.1.1.2.1).apt (by omega)
      rw [asz] at aU
      have b1 := a3.append a4 (lo := gF + 1) (hi := w4.heap.size + 1) (.inl (by omega)) (by omega) (by omega) (by omega) (by omega)
      have b2 := b1.append aF (lo := gF) (hi := w4.heap.size + 1) (.inr (by omega)) (by omega) (by omega) (by omega) (by omega)
      have b3 := b2.append aX (lo := gF) (hi := w9.heap.size) (.inl (by omega)) (by omega) (by omega) (by omega) (by omega)
      have b4 := b3.append aY (lo := gF) (hi := w10.heap.size) (.inl (by omega)) (by omega) (by omega) (by omega) (by omega)
      have b5 := b4.append aU (lo := gF) (hi := w12.heap.size) (.inl (by omega)) (by omega) (by omega) (by omega) (by omega)
      have b6 := b5.append aV (lo := gF) (hi := w28.heap.size) (.inl (by omega)) (by omega) (by omega) (by omega) (by omega)
      simpa only [List.append_assoc, List.singleton_append, List.cons_append, List.nil_append] using b6)
    have hgw : gF ≤ w28.heap.size := by have := HX9.out.h.1.1.1.1.1.1.1.1.1.1.1.1.1.2; omega
    clear hn3 hn4
    go_cut [28] from 191 (fun s28 wx => ∃ (AL : Option Addr) (nl cl : Nat), s28 = .slice AL nl cl ∧ LL wx w28.heap.size (.slice AL nl cl) (hdsV (bs3.map BtV.view) ++ hdsV (bs4.map BtV.view)) ∧ Below w28.heap.size w28 wx)
    case first =>
      -- region 27
      refine wp_region_held_drew (S := fun w' => Below w28.heap.size w28 w') (by kernel_rfl) (Bl.drew _) (fun hHeld => ?_)
      generalize w28.drew = wd at hHeld ⊢
      refine wpAnyH_take (i := 0) (v := .agg #[.int .u64 s.h.n, .int .u64 s.h.ep, .int .u64 s.h.f, .int .i64 s.h.w, .slice A3 m c3, .int .i64 s.used]) rfl (by kernel_rfl) (by kernel_rfl) (by kernel_rfl) (fun _ _ _ h => h) (Or.inl ⟨by rfl, fun w hS => by have R := (HX9.out.h.1.1.1.1.1.1.1.1.1.1.1.2.1).new hS; have y0 := R.c 0 _ rfl; have y1 := R.c 1 _ rfl; have y2 := R.c 2 _ rfl; have y3 := R.c 3 _ rfl; have y4 := R.c 4 _ rfl; have y5 := R.c 5 _ rfl; go_simp⟩) (by assumption) ?_
      try simp only [Act.put, List.getElem_toArray, List.getElem_cons_succ, List.getElem_cons_zero, List.setIfInBounds_toArray, List.set_cons_zero, List.set_cons_succ]
      refine wpAnyH_take (i := 2) (v := .agg #[.int .u64 s.h.n, .int .u64 s.h.ep, .int .u64 s.h.f, .int .i64 s.h.w, .slice A4 m c4, .int .i64 s.used]) rfl (by kernel_rfl) (by kernel_rfl) (by kernel_rfl) (fun _ _ _ h => h) (Or.inl ⟨by rfl, fun w hS => by have R := (HX9.out.h.1.1.1.1.1.1.1.1.1.1.2.1).new hS; have y0 := R.c 0 _ rfl; have y1 := R.c 1 _ rfl; have y2 := R.c 2 _ rfl; have y3 := R.c 3 _ rfl; have y4 := R.c 4 _ rfl; have y5 := R.c 5 _ rfl; go_simp⟩) (by assumption) ?_
      try simp only [Act.put, List.getElem_toArray, List.getElem_cons_succ, List.getElem_cons_zero, List.setIfInBounds_toArray, List.set_cons_zero, List.set_cons_succ]
      refine wpAnyH_ready (rs := [1]) (by kernel_rfl) (by simp) ?_
      refine AllReadyH.cons rfl (fun K hK => ?_) AllReadyH.nil
      go_simp
      (go_at_call 35; go_loud (with_reducible refine (lists_calls s.h.n s.h.ep s.h.f s.h.w s.used A3 (bs3.map BtV.view) m c3 _ ((HX9.out.h.1.1.1.1.1.1.1.1.1.1.1.2.2).new hHeld).view (HL64.out _ HE3.out).1 (HL64.out _ HE3.out).2 (by omega)).mono ?_); rintro e29 w29 ⟨A29, n29, c29, rfl, hn29, hl29, hb29⟩)
      dsimp only
      have HB29 := Lib.hid hb29
      have HLL29 := Lib.hid hl29
      have HN29 := Lib.hid hn29
      clear hn29 hl29
      refine hK.out _ _ (below_then hHeld hb29) (fun H1 => ?_)
      clear hK K
      try simp only [Act.put, List.getElem_toArray, List.getElem_cons_succ, List.getElem_cons_zero, List.setIfInBounds_toArray, List.set_cons_zero, List.set_cons_succ]
      refine wpAnyH_ready (rs := [3]) (by kernel_rfl) (by simp) ?_
      refine AllReadyH.cons rfl (fun K hK => ?_) AllReadyH.nil
      go_simp
      (go_at_call 35; go_loud (with_reducible refine (lists_calls s.h.n s.h.ep s.h.f s.h.w s.used A4 (bs4.map BtV.view) m c4 _ ((HX9.out.h.1.1.1.1.1.1.1.1.1.1.2.2).new H1).view (HL64.out _ HE4.out).1 (HL64.out _ HE4.out).2 (by omega)).mono ?_); rintro e30 w30 ⟨A30, n30, c30, rfl, hn30, hl30, hb30⟩)
      dsimp only
      have HB30 := Lib.hid hb30
      have HLL30 := Lib.hid hl30
      have HN30 := Lib.hid hn30
      clear hn30 hl30
      refine hK.out _ _ (below_then H1 hb30) (fun H2 => ?_)
      clear hK K
      try simp only [Act.put, List.getElem_toArray, List.getElem_cons_succ, List.getElem_cons_zero, List.setIfInBounds_toArray, List.set_cons_zero, List.set_cons_succ]
      refine wpAnyH_ready (rs := [4]) (by kernel_rfl) (by simp) ?_
      refine AllReadyH.cons rfl (fun K hK => ?_) AllReadyH.nil
      have hlx := ((HLL29.out.mono hHeld.size).new HB30.out)
      refine step_appendLL lst rfl (.tmp 192) (.tmp 194) rfl w28.heap.size (.slice A29 n29 c29) (hdsV (bs3.map BtV.view)) (hdsV (bs4.map BtV.view)) rfl hlx A30 n30 c30 rfl HN30.out (fun i y hy => (HLL30.out.cell i y hy).imp fun b h => ⟨h.1, h.2.1⟩) (fun e => LL.none0 (e ▸ HLL30.out)) (by have := HLEN3.out; have := HLEN4.out; omega) H2.size (fun A31 n31 c31 w31 hn31 hl31 hg31 => ?_)
      refine hK.out _ _ (H2.grown hg31 H2.size (fun k hk => (hlx.lt k hk).1)) (fun H3 => ?_)
      clear hK K
      try simp only [Act.put, List.getElem_toArray, List.getElem_cons_succ, List.getElem_cons_zero, List.setIfInBounds_toArray, List.set_cons_zero, List.set_cons_succ]
      refine wpAnyH_take (i := 5) (v := .slice A31 n31 c31) rfl (by kernel_rfl) (by kernel_rfl) (by kernel_rfl) (fun _ _ _ h => h) (Or.inl ⟨by rfl, fun w hS => by go_simp⟩) (by assumption) ?_
      try simp only [Act.put, List.getElem_toArray, List.getElem_cons_succ, List.getElem_cons_zero, List.setIfInBounds_toArray, List.set_cons_zero, List.set_cons_succ]
      refine wpAnyH_done (by kernel_rfl) ?_ _
      go_wp2_with fail
      go_meet
      exact ⟨A31, n31, c31, rfl, hl31, H3⟩
      -- end of region 27
    case rest =>
      obtain ⟨AL, nl, cl, rfl, hll, hbl⟩ := hcut
      obtain ⟨wY, hwY⟩ : ∃ x, x = wc := ⟨_, rfl⟩
      subst hwY
      have HLL := Lib.hid hll
      have HBL := Lib.hid hbl
      clear hll hbl
      go_wp2_with (first
        | (refine wp_appendLL lst rfl (.tmp 196) (.tmp 202) rfl w28.heap.size (.slice AL nl cl) (hdsV (bs3.map BtV.view) ++ hdsV (bs4.map BtV.view)) [⟨some ⟨gF, 0, none⟩, N + 40, N + 40⟩, ⟨A9, nh, c9⟩, ⟨A10, nh, c10⟩, ⟨A12, nq, c12⟩, ⟨A13, nq, c13⟩] rfl (HLL.out.new (Bl.alloc _ _)) (some ⟨wY.heap.size, 0, none⟩) 5 5 (by simp [Act.eval]) rfl (rows_at wY _ rfl [⟨some ⟨gF, 0, none⟩, N + 40, N + 40⟩, ⟨A9, nh, c9⟩, ⟨A10, nh, c10⟩, ⟨A12, nq, c12⟩, ⟨A13, nq, c13⟩] _) (fun h => absurd h (by simp)) (by have := HLEN3.out; have := HLEN4.out; simp only [List.length_append, List.length_cons, List.length_nil]; omega) (by rw [asz]; exact Nat.le_succ_of_le HBL.out.size) fun A32 n32 c32 w32 hn32 hl32 hg32 => ?_; have HB32 := Lib.hid ((below_then HBL.out (Bl.alloc wY _)).grown hg32 (below_then HBL.out (Bl.alloc wY _)).size (fun k hk => (HLL.out.lt k hk).1)); have HN32 := Lib.hid hn32; have HLL32 := Lib.hid hl32; clear hn32 hl32 hg32)
        | (go_at_call 36; go_loud (with_reducible refine (apartN gF w28.heap.size A32 ((hdsV (bs3.map BtV.view) ++ hdsV (bs4.map BtV.view)) ++ [⟨some ⟨gF, 0, none⟩, N + 40, N + 40⟩, ⟨A9, nh, c9⟩, ⟨A10, nh, c10⟩, ⟨A12, nq, c12⟩, ⟨A13, nq, c13⟩]) n32 c32 _ (HAPT.out.new HB32.out (Nat.le_refl _)) HB32.out.size (Nat.le_trans hgw HB32.out.size) HN32.out (fun i x hx => (HLL32.out.cell i x hx).imp fun b h => ⟨h.1, h.2.1, .inr h.2.2.1⟩) (by have := HLEN3.out; have := HLEN4.out; simp only [List.length_append, List.length_cons, List.length_nil]; omega)).mono ?_); rintro e33 w33 ⟨rfl, hb33⟩))
      go_ret
      exact ⟨rfl, (below_then (HX9.out.h.1.1.1.1.1.1.1.1.1.1.1.1.1.1) HB32.out).trans (below_lowM hb33 (by have := HG2.out.1; omega))⟩
theorem segmentMemory_all (A0 : Option Addr) (P : List UInt8) (N c0 : Nat) (K E F X : Int) (hK : 0 ≤ K ∧ K ≤ 18446744073709551615) (hE : 0 ≤ E ∧ E ≤ 18446744073709551615) (hF : 0 ≤ F ∧ F ≤ 18446744073709551615) (V : Int) (hV : 0 ≤ V ∧ V ≤ 18446744073709551615) (A1 : Option Addr) (es : List EnX) (n c1 : Nat) (w : World) (hL : Laid8 w) (hp : RB w A0 c0 P) (hN : N = P.length) (hN6 : N ≤ 1048576) (h : Ents w A1 es) (hn : n = es.length) (hnl : n * 56 ≤ 140737488351232) (hs0 : ∀ x ∈ es, x.1.K.length ≤ 140737488351232 ∧ x.1.V.length ≤ 140737488351232) :
    Calls Tryz.prog 10 #[.slice A0 N c0, .agg #[.int .u64 K, .int .u64 E, .int .u64 F, .int .i64 X], .agg #[.int .u64 V, .slice A1 n c1]] w fun r w' => r = .returned (.bool true) ∧ Below w.heap.size w w' := by
  obtain ⟨k, rfl⟩ := Int.eq_ofNat_of_zero_le hK.1
  obtain ⟨ep, rfl⟩ := Int.eq_ofNat_of_zero_le hE.1
  obtain ⟨fi, rfl⟩ := Int.eq_ofNat_of_zero_le hF.1
  obtain ⟨f, rfl⟩ := Int.eq_ofNat_of_zero_le hV.1
  exact segmentMemory_calls A0 P N c0 k ep fi X (by omega) (by omega) (by omega) f (by omega) A1 es n c1 w hL hp hN hN6 h hn hnl hs0
end Go.Proofs.YtpmnnnbkbcpgjaaGreatDoor
