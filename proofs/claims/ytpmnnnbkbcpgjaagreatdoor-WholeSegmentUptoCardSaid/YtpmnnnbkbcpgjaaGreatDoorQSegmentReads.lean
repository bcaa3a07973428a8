import Derived.Test.YtpmnnnbkbcpgjaaGreatDoorQSegAwake
import Derived.Test.YtpmnnnbkbcpgjaaGreatDoorQSegAlike
import Derived.Test.YtpmnnnbkbcpgjaaGreatDoorQBh
import Derived.Test.YtpmnnnbkbcpgjaaGreatDoorQLists
/- The walk of notarylaw08.SegmentReads. -/
namespace Go.Proofs.YtpmnnnbkbcpgjaaGreatDoor
open Go.RowKit

theorem readTo_each (P : List UInt8) : ∀ (f used ix : Nat), ∀ b ∈ (readTo f P used ix).bs, ∃ q, encBF b.1 b.2 = (q, 0)
  | 0, _, _, b, hb => absurd hb (by simp [readTo])
  | f + 1, used, ix, b, hb => by
    by_cases ho : oneOk P used ix
    · have hk := oneOk_back P used ix ho
      rw [readTo_step f P used ix _ _ hk] at hb
      rcases List.mem_cons.1 hb with rfl | hb
      · exact ⟨_, hk.enc⟩
      · exact readTo_each P f _ _ b hb
    · rw [readTo_end _ _ _ _ ho] at hb
      exact absurd hb (by simp)
theorem readF_each (P : List UInt8) (b : Nat × List En) (hb : b ∈ (readF P).bs) : ∃ q, encBF b.1 b.2 = (q, 0) := by
  unfold readF at hb
  split at hb
  · exact readTo_each P _ _ _ b hb
  · exact absurd hb (by simp [noSeg])
theorem readF_lens (P : List UInt8) (bs : List BvV) (h : bs.map BvV.fst = (readF P).bs) : ∀ b ∈ bs, b.es.length ≤ 9223372036854775807 := fun b hb => by
  obtain ⟨q, hq⟩ := readF_each P b.fst (by rw [← h]; exact List.mem_map.2 ⟨b, hb, rfl⟩)
  obtain ⟨_, _, _, h4, _⟩ := encBF_ok _ _ _ hq
  have : (ensOf b.es).length = b.es.length := by simp [ensOf]
  have h4 : (ensOf b.es).length ≤ 64 := h4
  omega
theorem readF_count (P : List UInt8) : (readF P).bs.length ≤ P.length := by
  unfold readF
  split
  · rename_i h
    obtain ⟨a, ea, _, _, _, _, hle, _⟩ := next_whole P 0 h.1
    have := (readTo_len P (P.length + 1) ((nextF P 0).payload.length + 18) (headV (nextF P 0).payload).f (by omega)).2
    simp only
    omega
  · simp [noSeg]
/-- what Read answers, with its numbers written out -/
theorem segRead8 (P : List UInt8) (s : Seg) (hs : readF P = s) (hl : P.length ≤ 140737488355328) (m : Nat) (hm : m = s.bs.length) (A : Option Addr) (c : Nat) (w : World) (hp : RB w A c P) :
    Calls Tryz.prog 24 #[.slice A P.length c] w fun r w' => ∃ A' c' bs, r = .returned (.tuple #[.agg #[.int .u64 s.h.n, .int .u64 s.h.ep, .int .u64 s.h.f, .int .i64 s.h.w, .slice A' m c', .int .i64 s.used], .int .i64 s.e]) ∧ Bats w' A' bs ∧ bs.map BvV.fst = s.bs ∧ Below w.heap.size w w' := by
  subst hm
  refine (segReadN A P _ c w hp rfl hl s hs).mono ?_
  rintro r w' ⟨A', c', bs, rfl, hk⟩
  exact ⟨A', c', bs.map BtV.view, rfl, hk.bl.view, by rw [view_fst]; exact hk.eq, hk.below⟩
theorem segReadB8 (P : List UInt8) (s : Seg) (hs : readF P = s) (hl : P.length ≤ 140737488355328) (m : Nat) (hm : m = s.bs.length) (A : Option Addr) (c : Nat) (w : World) (hp : RB w A c P) :
    Calls Tryz.prog 24 #[.slice A P.length c] w fun r w' => ∃ A' c' bs, r = .returned (.tuple #[.agg #[.int .u64 s.h.n, .int .u64 s.h.ep, .int .u64 s.h.f, .int .i64 s.h.w, .slice A' m c', .int .i64 s.used], .int .i64 s.e]) ∧ BL w' (w.heap.size + 1) (.slice A' m c') bs ∧ bs.map BtV.fst = s.bs ∧ (∀ b ∈ bs, b.s = true) ∧ Below w.heap.size w w' := by
  subst hm
  refine (segReadN A P _ c w hp rfl hl s hs).mono ?_
  rintro r w' ⟨A', c', bs, rfl, hk⟩
  exact ⟨A', c', bs, rfl, hk.bl, hk.eq, hk.sep, hk.below⟩
theorem docRead8 (P : List UInt8) (s : Seg) (hs : readF P = s) (hl : P.length ≤ 140737488355328) (m : Nat) (hm : m = s.bs.length) (A : Option Addr) (c : Nat) (w : World) (hp : RB w A c P) :
    Calls Tryz.prog 26 #[.slice A P.length c] w fun r w' => ∃ A' c' bs, r = .returned (.tuple #[.agg #[.int .u64 s.h.n, .int .u64 s.h.ep, .int .u64 s.h.f, .int .i64 s.h.w, .slice A' m c', .int .i64 s.used], .int .i64 s.e]) ∧ Bats w' A' bs ∧ bs.map BvV.fst = s.bs ∧ Below w.heap.size w w' := by
  subst hm
  refine (docReadN A P _ c w hp rfl hl s hs).mono ?_
  rintro r w' ⟨A', c', bs, rfl, hk⟩
  exact ⟨A', c', bs.map BtV.view, rfl, hk.bl.view, by rw [view_fst]; exact hk.eq, hk.below⟩
set_option maxHeartbeats 400000 in
set_option maxRecDepth 100000 in
theorem segmentReads_calls (A : Option Addr) (l : List LsV) (n c : Nat) (w : World) (hL : Laid8 w) (h : Lsts w A l) (hn : n = l.length) (hl : n ≤ 9223372036854775807) (hs : ∀ o ∈ l, o.P.length ≤ 140737488351232) :
    Calls Tryz.prog 5 #[.slice A n c] w fun r w' => r = .returned (.bool true) ∧ Below w.heap.size w w' := by
  have HN := Lib.hid hn
  have HL := Lib.hid hL
  clear hn hL
  go_enter Tryz.func5, Tryz.ntmps5
  go_wp2_with (go_at_call 12; (with_reducible refine (awake8_calls _ HL.out).mono ?_); rintro e1 w1 ⟨rfl, hb1⟩)
  go_loopw [4, 6, 5, 8, 7, 13] (fun _ _ _ _ _ iv wr => ∃ j : Nat, j ≤ n ∧ iv = .int .i64 j ∧ Below w.heap.size w wr) (fun _ _ _ _ _ iv _ => n - (intOf iv).toNat)
  case atStart => exact ⟨0, Nat.zero_le _, rfl, hb1⟩
  case round =>
    obtain ⟨j, hj, rfl, HBB⟩ := hrel
    by_cases hlt : j < n
    · obtain ⟨a, o, rfl, ho, hmem, hok, k0⟩ := (h.new HBB).at_ j (by rw [← HN.out]; exact hlt)
      have s1 := hs _ hmem
      have s2 : o.P.length ≤ 140737488355328 := by omega
      obtain ⟨s, hR⟩ : ∃ s, readF o.P = s := ⟨_, rfl⟩
      have hcnt := readF_count o.P
      have hlens := readF_lens o.P
      rw [hR] at hcnt hlens
      obtain ⟨⟨hN, hE, hF, hW⟩, bS, U, E⟩ := s
      obtain ⟨m, hm⟩ : ∃ m, m = bS.length := ⟨_, rfl⟩
      have hml : m ≤ 9223372036854775807 := by simp only at hcnt; omega
      have HM := Lib.hid hm
      have HLS := Lib.hid hlens
      have HD1 := Lib.hid (segRead8 o.P _ hR s2 m hm)
      have HD2 := Lib.hid (docRead8 o.P _ hR s2 m hm)
      have HBB := Lib.hid HBB
      have HOK := Lib.hid hok
      clear ho hcnt hR hlens hm hmem hok
      simp only at HD1 HD2
      go_wp2_with (first
        | (go_at_call 25; go_loud (with_reducible refine (twinR o.A o.P _ o.c _ HOK.out rfl s2).mono ?_); rintro r1 w2 ⟨A1, c1, rfl, hn1⟩; have B2 := Lib.hid hn1.below; have P2 := Lib.hid hn1.own.rb)
        | (go_at_call 24; go_loud (with_reducible refine (HD1.out A1 c1 _ P2.out).mono ?_); rintro r3 w3 ⟨A3, c3, bs3, rfl, hv3, he3, hb3⟩; have n3 := Bl.alloc w3 (.cells #[.int .u64 hN, .int .u64 hE, .int .u64 hF, .int .i64 hW, .slice A3 m c3, .int .i64 U] 51); have B3 := Lib.hid (below_then (below_then B2.out hb3) n3); have V3 := Lib.hid (hv3.new n3); have R3 := Lib.hid (Row.fresh w3 w3.heap.size rfl 51 [.int .u64 hN, .int .u64 hE, .int .u64 hF, .int .i64 hW, .slice A3 m c3, .int .i64 U] #[.int .u64 hN, .int .u64 hE, .int .u64 hF, .int .i64 hW, .slice A3 m c3, .int .i64 U] rfl); have E3 := Lib.hid he3)
        | (go_at_call 26; go_loud (with_reducible refine (HD2.out o.A o.c _ (HOK.out.new B3.out)).mono ?_); rintro r4 w4 ⟨A4, c4, bs4, rfl, hv4, he4, hb4⟩; have n4 := Bl.alloc w4 (.cells #[.int .u64 hN, .int .u64 hE, .int .u64 hF, .int .i64 hW, .slice A4 m c4, .int .i64 U] 56); have B4 := Lib.hid (below_then (below_then B3.out hb4) n4); have V4 := Lib.hid ((V3.out.new hb4).new n4); have W4 := Lib.hid (hv4.new n4); have R4 := (R3.out.new hb4).new n4; have E4 := Lib.hid he4; have x0 := R4.c 0 _ rfl; have x1 := R4.c 1 _ rfl; have x2 := R4.c 2 _ rfl; have x3 := R4.c 3 _ rfl; have x4 := R4.c 4 _ rfl; have x5 := R4.c 5 _ rfl)
        | (go_at_call 27; go_loud (with_reducible refine (alike_calls hN hE hF hW U E m A3 A4 c3 c4 bs3 bs4 _ V4.out W4.out (by rw [HM.out, ← E3.out, List.length_map]) (E3.out.trans E4.out.symm) hml (HLS.out bs3 E3.out)).mono ?_); rintro r5 w5 ⟨rfl, hb5⟩; have B5 := Lib.hid (below_then B4.out hb5)))
      go_roundw
      case rel => exact ⟨j + 1, by omega, by go_num, below_then HBB.out B5.out⟩
      case measure => simp [intOf]; omega
    · obtain rfl : j = n := by omega
      clear hlt
      go_wp2
      go_ret
      exact ⟨rfl, HBB⟩
end Go.Proofs.YtpmnnnbkbcpgjaaGreatDoor
