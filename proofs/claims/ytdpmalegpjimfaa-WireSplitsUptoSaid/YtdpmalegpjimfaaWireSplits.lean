/- WireSplits. -/
import Derived.Test.YtdpmalegpjimfaaWireScript
import Derived.Test.YtdpmalegpjimfaaWireLaws
namespace Go.Proofs.Ytdpmalegpjimfaa
open Go.RowKit

theorem laidAll_append (a b : List OpV) : laidAll (a ++ b) = laidAll a ++ laidAll b := by simp [laidAll]
theorem take_stop (x : List OpV) (i : Nat) (h : x.length ≤ i) : laidAll (x.take (i + 1)) = laidAll (x.take i) := by rw [List.take_of_length_le h, List.take_of_length_le (Nat.le_succ_of_le h)]
/-- the split's place -/
def splitN (len : Nat) (s : Int) : Nat := if s < 0 ∨ (len : Int) < s then len / 2 else s.toNat
theorem splitN_le (len : Nat) (s : Int) : splitN len s ≤ len := by unfold splitN; split <;> omega

set_option maxHeartbeats 400000 in
set_option maxRecDepth 100000 in
theorem wireSplits_calls (A : Option Addr) (l : List OpV) (n c : Nat) (s : Int) (w : World) (h : Ops w A l) (hn : n = l.length) (hs : bulkOps l ≤ 1048576) :
    Calls Try.prog 6 #[.slice A n c, .int .i64 s] w fun e w' => e = .returned (.bool true) ∧ Below w.heap.size w w' := by
  subst hn
  have hlen := Nat.le_trans (bulk_len l) hs
  have htot := laidAll_le l
  obtain ⟨k, hk⟩ : ∃ k, k = splitN l.length s := ⟨_, rfl⟩
  have hkl : k ≤ l.length := by rw [hk]; exact splitN_le _ _
  have hcase : (s < 0 ∧ (l.length : Int) / 2 = k) ∨ (¬ s < 0 ∧ (l.length : Int) < s ∧ (l.length : Int) / 2 = k) ∨ (¬ s < 0 ∧ ¬ (l.length : Int) < s ∧ s = k) := by
    unfold splitN at hk
    by_cases h1 : s < 0
    · rw [if_pos (.inl h1)] at hk; exact .inl ⟨h1, by omega⟩
    · by_cases h2 : (l.length : Int) < s
      · rw [if_pos (.inr h2)] at hk; exact .inr (.inl ⟨h1, h2, by omega⟩)
      · rw [if_neg (by omega)] at hk; exact .inr (.inr ⟨h1, h2, by omega⟩)
  clear hk
  obtain ⟨b1, b2, e1, e2, e3⟩ : ∃ b1 b2 : Bool, decide (s < 0) = b1 ∧ decide ((l.length : Int) < s) = b2 ∧ (if b1 || b2 then (l.length : Int) / 2 else s) = k := by
    refine ⟨_, _, rfl, rfl, ?_⟩
    rcases hcase with ⟨g1, g3⟩ | ⟨g1, g2, g3⟩ | ⟨g1, g2, g3⟩
    · simp [g1, g3]
    · simp [g1, g2, g3]
    · have e : (decide (s < 0) || decide ((l.length : Int) < s)) = false := by simp only [g1, g2, decide_false, Bool.or_false]
      rw [e]
      exact g3
  clear hcase
  have e4 : decide (l.length < k) = false := by rw [decide_eq_false_iff_not]; omega
  have e5 : decide ((k : Int) < 0) = false := by rw [decide_eq_false_iff_not]; omega
  cases b1 <;> cases b2 <;> simp only [Bool.or_true, Bool.or_false, if_true, if_false, Bool.false_eq_true] at e3
  all_goals
    try (subst e3; clear e1 e2)
    go_enter Try.func6, Try.ntmps6
    go_wp2_with (go_at_call 15; (with_reducible refine (awake_calls _).mono ?_); rintro e0 w0 ⟨rfl, hb0⟩)
    have HTwo1 := Lib.hid ((WrF.fresh w0 w0.heap.size rfl 26).new (below_alloc1 (Below.refl _ _) (Nat.le_refl _) (.cells #[.slice none 0 0] 26)))
    have HTwo2 := Lib.hid (WrF.fresh (w0.alloc (.cells #[.slice none 0 0] 26)) (w0.heap.size + 1) (asz _ _) 26)
    have HB0 := Lib.hid (belowA (belowA hb0 (.cells #[.slice none 0 0] 26)) (.cells #[.slice none 0 0] 26))
    go_loopw [7, 24] (fun _ iv wr => ∃ (i : Nat) (F G : Nat → Prop), i ≤ l.length ∧ iv = .int .i64 i ∧ WrF wr F w0.heap.size (laidAll ((l.take k).take i)) ∧ WrF wr G (w0.heap.size + 1) (laidAll ((l.drop k).take i)) ∧ Disj F G ∧ (∀ j, F j → w.heap.size ≤ j) ∧ (∀ j, G j → w.heap.size ≤ j) ∧ Below w.heap.size w wr) (fun _ i _ => l.length - (intOf i).toNat)
    case atStart => exact ⟨0, _, _, Nat.zero_le _, rfl, HTwo1.out, HTwo2.out, fun j h1 h2 => by (have e1 : j = w0.heap.size := h1); (have e2 : j = w0.heap.size + 1 := h2); omega, fun j h1 => by (have e1 : j = w0.heap.size := h1); have := hb0.size; omega, fun j h1 => by (have e1 : j = w0.heap.size + 1 := h1); have := hb0.size; omega, HB0.out⟩
    case round =>
      obtain ⟨i, F, G, hi, rfl, HWa, HWb, HD, HFlo, HGlo, HB⟩ := hrel
      by_cases hlt : i < l.length
      · have t1 := laidAll_le ((l.take k).take i)
        have t2 := bulk_take (l.take k) i
        have t3 := bulk_take l k
        have t4 := laidAll_le ((l.drop k).take i)
        have t5 := bulk_take (l.drop k) i
        have t6 : bulkOps (l.drop k) ≤ bulkOps l := by
          have := congrArg bulkOps (List.take_append_drop k l)
          simp only [bulkOps, List.map_append, List.sum_append] at this ⊢
          omega
        by_cases hik : i < k
        · obtain ⟨a, o1, rfl, ho1, hm1, hok1, k0, k1, k2, k3⟩ := (h.new HB).at_ i hlt
          have E1 := Lib.hid (laidAll_snoc (l.take k) i o1 (by rw [List.getElem?_take, if_pos hik]; exact ho1)).symm
          have t7 := bulk_mem hm1
          have HL1 : Hid ((laidAll ((l.take k).take i)).length + o1.P.length + 10 ≤ 140737488355328) := Lib.hid (by omega)
          by_cases hi2 : i < l.length - k
          · have hki : k + i < l.length := by omega
            obtain ⟨o2, ho2⟩ : ∃ o2, l[k + i]? = some o2 := ⟨_, List.getElem?_eq_getElem hki⟩
            have hm2 : o2 ∈ l := List.mem_of_getElem? ho2
            have E2 := Lib.hid (laidAll_snoc (l.drop k) i o2 (by rw [List.getElem?_drop]; exact ho2)).symm
            have t8 := bulk_mem hm2
            have HL2 : Hid ((laidAll ((l.drop k).take i)).length + o2.P.length + 10 ≤ 140737488355328) := Lib.hid (by omega)
            have hc2 : (i : Int) < (l.length : Int) - k := by omega
            have hti : ((k : Int) + (i : Int)).toNat = k + i := by omega
            have hk0 : (0 : Int) ≤ (k : Int) + (i : Int) := by omega
            have hk1 : (k : Int) + (i : Int) < (l.length : Int) := by omega
            have hkz : IntKind.i64.wrap ((l.length : Int) - k) = (l.length : Int) - k := IntWalk.i64_in _ (by omega)
            clear t1 t2 t3 t4 t5 t6 t7 t8 hi2 htot
            go_wp2_with (first
              | (go_at_call 18; (with_reducible refine (wlay_calls HWa o1.k o1.v o1.n o1.A o1.P o1.P.length o1.c _ E1.out rfl hok1.v hok1.P (Free.of_old (h.ok o1 hm1).P.old HFlo) HL1.out).mono ?_); rintro e1 w1 ⟨F1, rfl, hw1, hs1⟩; have hx1 := HWb.step hs1 HD.symm; have HB1 := Lib.hid (HB.trans (hs1.below HB.size HFlo)); have HD1 := (HD.symm.step hs1 HWb.lt).symm; obtain ⟨a2, o2', ha2, ho2', hm2', hok2, c0, c1, c2, c3⟩ := (h.new HB1.out).at_ (k + i) hki; obtain rfl := Option.some.inj ha2; obtain rfl := Option.some.inj (ho2.symm.trans ho2'))
              | (go_at_call 18; (with_reducible refine (wlay_calls hx1 o2.k o2.v o2.n o2.A o2.P o2.P.length o2.c _ E2.out rfl hok2.v hok2.P (Free.of_old (h.ok o2 hm2).P.old HGlo) HL2.out).mono ?_); rintro e2 w2 ⟨G2, rfl, hw2, hs2⟩; have HB2 := Lib.hid (HB1.out.trans (hs2.below HB1.out.size HGlo))))
            go_roundw
            case rel => exact ⟨i + 1, F1, G2, by omega, by go_num, hw1.step hs2 HD1, hw2, HD1.step hs2 hw1.lt, hs1.lo HFlo HB.size, hs2.lo HGlo HB1.out.size, HB2.out⟩
            case measure => simp [intOf] <;> omega
          · have E2 := Lib.hid (take_stop (l.drop k) i (by rw [List.length_drop]; omega))
            have hc2 : ¬ ((i : Int) < (l.length : Int) - k) := by omega
            have hkz : IntKind.i64.wrap ((l.length : Int) - k) = (l.length : Int) - k := IntWalk.i64_in _ (by omega)
            clear t1 t2 t3 t4 t5 t6 t7 hi2 htot
            go_wp2_with (first
              | (go_at_call 18; (with_reducible refine (wlay_calls HWa o1.k o1.v o1.n o1.A o1.P o1.P.length o1.c _ E1.out rfl hok1.v hok1.P (Free.of_old (h.ok o1 hm1).P.old HFlo) HL1.out).mono ?_); rintro e1 w1 ⟨F1, rfl, hw1, hs1⟩; have hx1 := HWb.step hs1 HD.symm; have HB1 := Lib.hid (HB.trans (hs1.below HB.size HFlo)); have HD1 := (HD.symm.step hs1 HWb.lt).symm))
            all_goals exact ⟨⟨i + 1, F1, G, by omega, by go_num, hw1, by rw [E2.out]; exact hx1, HD1, hs1.lo HFlo HB.size, HGlo, HB1.out⟩, by simp [intOf] <;> omega⟩
        · have E1 := Lib.hid (take_stop (l.take k) i (by rw [List.length_take]; omega))
          by_cases hi2 : i < l.length - k
          · have hki : k + i < l.length := by omega
            obtain ⟨a, o2, rfl, ho2, hm2, hok2, c0, c1, c2, c3⟩ := (h.new HB).at_ (k + i) hki
            have E2 := Lib.hid (laidAll_snoc (l.drop k) i o2 (by rw [List.getElem?_drop]; exact ho2)).symm
            have t8 := bulk_mem hm2
            have HL2 : Hid ((laidAll ((l.drop k).take i)).length + o2.P.length + 10 ≤ 140737488355328) := Lib.hid (by omega)
            have hc2 : (i : Int) < (l.length : Int) - k := by omega
            have hti : ((k : Int) + (i : Int)).toNat = k + i := by omega
            have hk0 : (0 : Int) ≤ (k : Int) + (i : Int) := by omega
            have hk1 : (k : Int) + (i : Int) < (l.length : Int) := by omega
            have hkz : IntKind.i64.wrap ((l.length : Int) - k) = (l.length : Int) - k := IntWalk.i64_in _ (by omega)
            clear t1 t2 t3 t4 t5 t6 t8 hi2 htot
            go_wp2_with (first
              | (go_at_call 18; (with_reducible refine (wlay_calls HWb o2.k o2.v o2.n o2.A o2.P o2.P.length o2.c _ E2.out rfl hok2.v hok2.P (Free.of_old (h.ok o2 hm2).P.old HGlo) HL2.out).mono ?_); rintro e2 w2 ⟨G2, rfl, hw2, hs2⟩; have HB2 := Lib.hid (HB.trans (hs2.below HB.size HGlo))))
            go_roundw
            case rel => exact ⟨i + 1, F, G2, by omega, by go_num, by rw [E1.out]; exact HWa.step hs2 HD, hw2, HD.step hs2 HWa.lt, HFlo, hs2.lo HGlo HB.size, HB2.out⟩
            case measure => simp [intOf] <;> omega
          · have E2 := Lib.hid (take_stop (l.drop k) i (by rw [List.length_drop]; omega))
            have hc2 : ¬ ((i : Int) < (l.length : Int) - k) := by omega
            have hkz : IntKind.i64.wrap ((l.length : Int) - k) = (l.length : Int) - k := IntWalk.i64_in _ (by omega)
            clear t1 t2 t3 t4 t5 t6 hi2 htot
            go_wp2
            go_roundw
            case rel => exact ⟨i + 1, F, G, by omega, by go_num, by rw [E1.out]; exact HWa, by rw [E2.out]; exact HWb, HD, HFlo, HGlo, HB⟩
            case measure => simp [intOf] <;> omega
      · obtain rfl : i = l.length := by omega
        have t1 := laidAll_append (l.take k) (l.drop k)
        rw [List.take_append_drop] at t1
        rw [List.take_of_length_le (by rw [List.length_take]; omega)] at HWa
        rw [List.take_of_length_le (by rw [List.length_drop]; omega)] at HWb
        generalize laidAll (l.take k) = p1 at *
        generalize laidAll (l.drop k) = p2 at *
        have t2 : (laidAll l).length = p1.length + p2.length := by rw [t1, List.length_append]
        have HN := Lib.hid t2.symm
        have HE := Lib.hid t1.symm
        have HNI := Lib.hid (show (p1.length : Int) + p2.length = ((laidAll l).length : Nat) by rw [t2]; rfl)
        have L1 : p1.length ≤ 140737488355328 := by omega
        have L2 : p2.length ≤ 140737488355328 := by omega
        have L3 : p1.length + p2.length ≤ 281474976710656 := by omega
        clear t1 t2 htot hlt
        go_wp2_with (first
          | (go_at_call 24; (with_reducible refine (written_calls A l l.length c (p1.length + p2.length) _ (h.new HB) rfl hs HN.out).mono ?_); rintro e1 w1 ⟨A1, c1, rfl, hn1⟩; have HWa1 := HWa.new hn1.below; have HWb1 := HWb.new hn1.below)
          | (go_at_call 21; (with_reducible refine (lenF HWa1 _ rfl).mono ?_); rintro e2 w2 ⟨rfl, rfl⟩)
          | (go_at_call 21; (with_reducible refine (lenF HWb1 _ rfl).mono ?_); rintro e3 w3 ⟨rfl, rfl⟩)
          | (go_at_call 17; (with_reducible refine (bytesF HWa1 _ rfl L1).mono ?_); rintro e4 w4 ⟨A4, c4, rfl, hn4⟩)
          | (go_at_call 17; (with_reducible refine (bytesF (HWb1.new hn4.below) _ rfl L2).mono ?_); rintro e5 w5 ⟨A5, c5, rfl, hn5⟩)
          | (go_at_call 19; (with_reducible refine (joinN A4 A5 p1 p2 (laidAll l) _ _ (p1.length + p2.length) c4 c5 _ (hn4.own.rb.new hn5.below) hn5.own.rb rfl rfl rfl HE.out L3).mono ?_); rintro e6 w6 ⟨A6, c6, rfl, hn6⟩)
          | (go_at_call 22; (with_reducible refine (sameR A6 A1 (laidAll l) (laidAll l) _ _ c6 c1 _ hn6.own.rb (hn1.own.rb.new (below_then (below_then hn4.below hn5.below) hn6.below)) HN.out HN.out true (by simp)).mono ?_); rintro e7 w7 ⟨rfl, hd7⟩))
        go_ret
        exact ⟨ret_bool (by simp), (below_then (below_then (below_then (below_then HB hn1.below) hn4.below) hn5.below) hn6.below).trans (hd7.below _)⟩
end Go.Proofs.Ytdpmalegpjimfaa
