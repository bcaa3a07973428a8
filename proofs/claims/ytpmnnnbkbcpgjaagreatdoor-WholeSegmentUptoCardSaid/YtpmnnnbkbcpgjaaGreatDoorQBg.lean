import Derived.Test.YtpmnnnbkbcpgjaaGreatDoorShelf
import Derived.Test.YtpmnnnbkbcpgjaaGreatDoorQBa
import Derived.Lib.AppendIntMem
import Derived.Lib.Walk
import Derived.Lib.ItoaMem
import Derived.BigCall
import Derived.BigGuard
import Derived.Lib.SmallJoins
import Derived.Test.YtpmnnnbkbcpgjaaGreatDoorQBe
/- strconv.FormatUint at base 10, from 100 on. -/
namespace Go.Proofs.YtpmnnnbkbcpgjaaGreatDoor
open Go.RowKit Go.Sort Go.Lib

set_option maxHeartbeats 6400000 in
set_option maxRecDepth 100000 in
theorem formatUint_calls (u : Nat) (hu0 : 100 ≤ u) (hu64 : u < 18446744073709551616) (w : World) (htab : Lib.TabIs Tryz.prog w "internal/strconv.uint64pow10" .u64 Lib.pow10Tab) :
    Calls Tryz.prog 69 #[.int .u64 u, .int .i64 10] w fun e w' => e = .returned (.string ⟨(Lib.decDigits u).toArray⟩) ∧ ∃ k os, w' = grow (w.drewN k) os := by
  have hu1 : 1 ≤ u := by omega
  have hnd20 : Lib.nDigits u ≤ 20 := by have := Lib.numDigits_eq u hu1 hu64; split at this <;> omega
  have hb3 : Lib.nDigits u ≤ 24 := by omega
  have hal : Tryz.prog.arrayLen 174 = 24 := by kernel_rfl
  have hsl1 : ∀ W, (Instr.sliceAt 174 (.pointer (some ⟨w.heap.size, 0, none⟩)) none (some (.int .i64 (Lib.nDigits u : Int))) none).run Tryz.prog W = .ok (.slice (some ⟨w.heap.size, 0, none⟩) (Lib.nDigits u) 24) W := fun W => by
    rw [run_sliceAt_array_h W 174 ⟨w.heap.size, 0, none⟩ (by kernel_rfl) .i64 (Lib.nDigits u : Int) (by omega) (by rw [hal]; omega)]
    go_simp
  have hH0 := Lib.holds_zero0 w 174 (Lib.nDigits u) (by omega)
  have hfmt := Tryz.internal_strconv_formatBase10 w.heap.size 0 24 u (Array.replicate (Lib.nDigits u) 0) (w.alloc (.cells Lib.zeros24 174)) hH0 (by rw [Array.size_replicate]; exact Lib.lt_pow_nDigits u) hu64 (by rw [Array.size_replicate]; omega)
  rw [Array.size_replicate] at hfmt
  have HH0 := Lib.hid hH0
  have hlt : decide ((u : Int) < 100) = false := by rw [decide_eq_false_iff_not]; omega
  clear hH0 hal
  go_enter Tryz.func69, Tryz.ntmps69
  go_wp2_with (first
    | (go_at_call 120; refine (Tryz.internal_strconv_numDigits u hu1 hu64 _ (Lib.tabIs_alloc htab _)).mono ?_; rintro e w' ⟨rfl, rfl⟩))
  refine hfmt.mono ?_
  rintro e w' ⟨rfl, k, v', dk, rfl, hF⟩
  have hcv := run_convert_bytes_back (P := Tryz.prog) ((putRow (fun (b : UInt8) => Value.int .u8 (b.toNat : Int)) (w.alloc (.cells Lib.zeros24 174)) w.heap.size 0 dk).drewN k) 36 9 5 ⟨w.heap.size, 0, none⟩ 24 (Lib.decDigits u) Tryz.underlying36 Tryz.underlying5 Tryz.underlying9 (fun j hj => by
    rw [Lib.row_is_numeral hF j hj, Lib.add_plain, World.cell?_drewN]
    exact cell?_putRow (fun (b : UInt8) => Value.int .u8 (b.toNat : Int)) _ w.heap.size 0 _ dk HH0.out (by rw [hF.size, Array.size_replicate]) j (by rw [hF.size]; rw [Lib.decDigits_length] at hj; exact hj))
  rw [Lib.decDigits_length] at hcv
  go_wp2
  go_ret
  refine ⟨rfl, k, ?_⟩
  show ∃ os, (putRow (fun (b : UInt8) => Value.int .u8 (b.toNat : Int)) (w.alloc (.cells Lib.zeros24 174)) w.heap.size 0 dk).drewN k = grow (w.drewN k) os
  rw [alloc_eq_grow]
  obtain ⟨os', _, e⟩ := putRow_grow_new (fun (b : UInt8) => Value.int .u8 (b.toNat : Int)) w #[.cells Lib.zeros24 174] w.heap.size 0 dk (Nat.le_refl _)
  exact ⟨os', by rw [e]; rfl⟩
set_option maxRecDepth 100000 in
theorem fmtU_calls (u : Nat) (hu64 : u < 18446744073709551616) (w : World) (htab : Lib.TabIs Tryz.prog w "internal/strconv.uint64pow10" .u64 Lib.pow10Tab) :
    Calls Tryz.prog 41 #[.int .u64 u, .int .i64 10] w fun e w' => e = .returned (.string ⟨(Lib.decDigits u).toArray⟩) ∧ Below w.heap.size w w' := by
  have key : Calls Tryz.prog 69 #[.int .u64 u, .int .i64 10] w fun e w' => e = .returned (.string ⟨(Lib.decDigits u).toArray⟩) ∧ Below w.heap.size w w' := by
    by_cases hs : u < 100
    · have hlt : (u : Int) < 100 := by omega
      go_enter Tryz.func69, Tryz.ntmps69
      go_wp2_with (go_at_call 119; refine (Tryz.internal_strconv_small u hs _).mono ?_; rintro e w' ⟨rfl, rfl⟩)
      go_ret
      exact ⟨rfl, Below.refl _ _⟩
    · exact (formatUint_calls u (by omega) hu64 w htab).mono fun e w' ⟨h1, k, os, h2⟩ => ⟨h1, by rw [h2]; exact Lib.below_grow _ w (Nat.le_refl _) k os⟩
  go_enter Tryz.func41, Tryz.ntmps41
  go_wp2_with (go_at_call 69; (with_reducible refine key.mono ?_); rintro e w' ⟨rfl, hb⟩)
  go_ret
  exact ⟨rfl, hb⟩
end Go.Proofs.YtpmnnnbkbcpgjaaGreatDoor

/- The walk of segment.Name. -/
namespace Go.Proofs.YtpmnnnbkbcpgjaaGreatDoor
open Go.RowKit Go.Lib

theorem decDigits_small (u : Nat) (hu64 : u < 18446744073709551616) : (decDigits u).length ≤ 20 := by
  rw [decDigits_length]
  by_cases h : 1 ≤ u
  · have := numDigits_eq u h hu64; split at this <;> omega
  · obtain rfl : u = 0 := by omega
    first
      | (rw [show nDigits 0 = 1 by rfl]; omega)
      | (unfold nDigits; simp)
      | simp [nDigits]
def nameL (u : Nat) : List UInt8 := [115, 101, 103, 45] ++ (repeatL [48] (20 - (decDigits u).length) ++ decDigits u)
set_option maxRecDepth 100000 in
theorem name_calls (u : Nat) (hu64 : u < 18446744073709551616) (w : World) (htab : Lib.TabIs Tryz.prog w "internal/strconv.uint64pow10" .u64 Lib.pow10Tab) :
    Calls Tryz.prog 13 #[.int .u64 u] w fun e w' => e = .returned (.string ⟨(nameL u).toArray⟩) ∧ Below w.heap.size w w' := by
  have hd := decDigits_small u hu64
  have hn : (20 : Int) - ((decDigits u).length : Int) = ((20 - (decDigits u).length : Nat) : Int) := by omega
  have hrl : (repeatL [48] (20 - (decDigits u).length)).length = 20 - (decDigits u).length := by
    first
      | (rw [repeatL_length]; simp)
      | (unfold repeatL; simp)
      | simp [repeatL_length]
  have h1 : ¬ 9223372036854775807 < 4 + (repeatL [48] (20 - (decDigits u).length)).length := by rw [hrl]; omega
  have h2 : ¬ 9223372036854775807 < 4 + (repeatL [48] (20 - (decDigits u).length)).length + (decDigits u).length := by rw [hrl]; omega
  have hcat : (⟨#[115, 101, 103, 45]⟩ ++ ⟨(repeatL [48] (20 - (decDigits u).length)).toArray⟩ ++ ⟨(decDigits u).toArray⟩ : ByteArray) = ⟨(nameL u).toArray⟩ := by
    apply ByteArray.ext
    simp [nameL]
  clear hrl
  go_enter Tryz.func13, Tryz.ntmps13
  go_wp2_with (first
    | (go_at_call 41; (with_reducible refine (fmtU_calls u hu64 _ htab).mono ?_); rintro e1 w1 ⟨rfl, hb1⟩)
    | (go_at_call 42; go_loud (refine (Tryz.strings_Repeat ⟨#[48]⟩ (20 - (decDigits u).length) _ (by omega) (by show 1 * _ ≤ _; omega)).mono ?_); rintro e2 w2 ⟨rfl, hb2⟩))
  go_ret
  exact ⟨by rw [← hcat]; rfl, (Below.trans hb1 (Below.mono hb2 hb1.size))⟩
end Go.Proofs.YtpmnnnbkbcpgjaaGreatDoor

/- The walk of segment.Number. -/
namespace Go.Proofs.YtpmnnnbkbcpgjaaGreatDoor
open Go.RowKit Go.Lib

/-- what the listed variables hold, as far as the walks ask -/
structure Laid8 (w : World) : Prop where
  tab : Lib.TabIs Tryz.prog w "internal/strconv.uint64pow10" .u64 Lib.pow10Tab
  rng : ∃ tp p, w.var? Tryz.prog "strconv.ErrRange" = some #[.iface tp p]
theorem Laid8.below {W w : World} (h : Laid8 W) (hb : Below W.heap.size W w) : Laid8 w :=
  ⟨Joins.tab_stays (show Tryz.prog.globalNamed "internal/strconv.uint64pow10" = some 0 by kernel_rfl) h.tab hb (Nat.le_refl _),
    let ⟨tp, p, hv⟩ := h.rng
    ⟨tp, p, Joins.var_stays (show Tryz.prog.globalNamed "strconv.ErrRange" = some 2 by kernel_rfl) hv hb (Nat.le_refl _)⟩⟩
def frontL : List UInt8 := [115, 101, 103, 45]
def allDig (l : List UInt8) : Prop := ∀ c ∈ l, 48 ≤ c.toNat ∧ c.toNat ≤ 57
instance (l : List UInt8) : Decidable (allDig l) := by unfold allDig; infer_instance
def digN (l : List UInt8) : Nat := l.foldl (fun v c => v * 10 + (c.toNat - 48)) 0
def numberF (l : List UInt8) : Nat × Nat := if l.length = 24 ∧ l.take 4 = frontL ∧ allDig (l.drop 4) ∧ digN (l.drop 4) < 18446744073709551616 then (digN (l.drop 4), 0) else (0, 3)

theorem ext_list (s : ByteArray) (i j : Nat) : (s.extract i j).data.toList = (s.data.toList.drop i).take (j - i) := by
  simp [List.extract_eq_take_drop]
theorem str_size (s : ByteArray) : s.data.toList.length = s.size := Array.length_toList
set_option maxRecDepth 100000 in
theorem number_len (s : ByteArray) (hs : s.size ≠ 24) (w : World) :
    Calls Tryz.prog 15 #[.string s] w fun e w' => e = .returned (.tuple #[.int .u64 0, .int .i64 3]) ∧ w' = w := by
  have hb : ((s.size : Int) != 24) = true := by rw [bne_iff_ne]; omega
  go_enter Tryz.func15, Tryz.ntmps15
  go_wp2
  go_ret2
  exact ⟨rfl, rfl⟩
set_option maxRecDepth 100000 in
theorem number_front (s : ByteArray) (hs : s.size = 24) (hf : s.data.toList.take 4 ≠ frontL) (w : World) :
    Calls Tryz.prog 15 #[.string s] w fun e w' => e = .returned (.tuple #[.int .u64 0, .int .i64 3]) ∧ w' = w := by
  have hb : ((s.size : Int) != 24) = false := by rw [bne_eq_false_iff_eq]; omega
  have hx : ((s.extract 0 4).toList == [115, 101, 103, 45]) = false := by rw [ByteArray.toList_eq, ext_list, beq_eq_false_iff_ne]; exact hf
  clear hf
  go_enter Tryz.func15, Tryz.ntmps15
  go_wp2
  go_ret2
  exact ⟨rfl, rfl⟩
theorem decode_ascii_iff (s : ByteArray) (pos : Nat) (h : pos < s.size) : (48 ≤ (Utf8.decode s pos).1 ∧ (Utf8.decode s pos).1 ≤ 57) ↔ (48 ≤ (s[pos]'h).toNat ∧ (s[pos]'h).toNat ≤ 57) := by
  by_cases ha : (s[pos]'h).toNat < 128
  · rw [decode_ascii s pos h ha]
  · have := decode_high s pos h (by omega)
    constructor
    · intro h2; omega
    · intro h2; omega
theorem iter_below (w : World) (s : ByteArray) (pos : Nat) : Below w.heap.size w (w.iter s pos) := below_alloc1 (Below.refl _ _) (Nat.le_refl _) _
theorem digN_acc (l : List UInt8) : ∀ acc : Nat, acc ≤ l.foldl (fun v c => v * 10 + (c.toNat - 48)) acc := by
  induction l with
  | nil => intro acc; exact Nat.le_refl _
  | cons c l ih => intro acc; exact Nat.le_trans (by show acc ≤ acc * 10 + (c.toNat - 48); omega) (ih _)
theorem parse_dig (l : List UInt8) : ∀ acc : Nat, acc < 18446744073709551616 → allDig l → parseUintM 18446744073709551615 acc l = if l.foldl (fun v c => v * 10 + (c.toNat - 48)) acc < 18446744073709551616 then .ok (l.foldl (fun v c => v * 10 + (c.toNat - 48)) acc) else .range := by
  induction l with
  | nil => intro acc h _; rw [parseUintM, List.foldl_nil, if_pos h]
  | cons c l ih =>
    intro acc h hd
    have hc := hd c (by simp)
    have hge := digN_acc l (acc * 10 + (c.toNat - 48))
    rw [parseUintM, if_pos hc, List.foldl_cons]
    by_cases h1 : 1844674407370955162 ≤ acc
    · rw [if_pos h1, if_neg (by omega)]
    · rw [if_neg h1]
      by_cases h2 : 18446744073709551615 < acc * 10 + (c.toNat - 48)
      · rw [if_pos h2, if_neg (by omega)]
      · rw [if_neg h2]
        exact ih _ (by omega) fun x hx => hd x (by simp [hx])
theorem parse_dig0 (l : List UInt8) (h0 : l ≠ []) (hd : allDig l) : parseUintB 64 l = if digN l < 18446744073709551616 then .ok (digN l) else .range := by
  unfold parseUintB digN
  rw [if_neg h0]
  exact parse_dig l 0 (by decide) hd
theorem byte_at (t : ByteArray) (pos : Nat) (h : pos < t.size) : t.data.toList[pos]? = some (t[pos]'h) := by
  rw [Array.getElem?_toList]
  exact Array.getElem?_eq_getElem h
theorem allDig_take (t : ByteArray) (pos : Nat) (h : pos < t.size) (hd : allDig (t.data.toList.take pos)) (hc : 48 ≤ (t[pos]'h).toNat ∧ (t[pos]'h).toNat ≤ 57) : allDig (t.data.toList.take (pos + 1)) := by
  intro c hm
  rw [List.take_add_one, byte_at t pos h] at hm
  rcases List.mem_append.1 hm with h1 | h1
  · exact hd c h1
  · obtain rfl : c = t[pos]'h := by simpa using h1
    exact hc
theorem allDig_no (t : ByteArray) (pos : Nat) (h : pos < t.size) (hc : ¬(48 ≤ (t[pos]'h).toNat ∧ (t[pos]'h).toNat ≤ 57)) : ¬ allDig t.data.toList := fun hd =>
  hc (hd _ (List.mem_of_getElem? (byte_at t pos h)))
theorem numberF_no {l : List UInt8} (h : ¬ allDig (l.drop 4)) : numberF l = (0, 3) := by
  unfold numberF; rw [if_neg (fun ⟨_, _, h3, _⟩ => h h3)]
set_option maxRecDepth 100000 in
theorem number_loop (s : ByteArray) (hs : s.size = 24) (hf : s.data.toList.take 4 = frontL) (w : World) (hL : Laid8 w) :
    Calls Tryz.prog 15 #[.string s] w fun e w' => e = .returned (.tuple #[.int .u64 (numberF s.data.toList).1, .int .i64 (numberF s.data.toList).2]) ∧ Below w.heap.size w w' := by
  have hold : ∀ w', Below w.heap.size w w' → Laid8 w' := fun w' hb => hL.below hb
  have hb : ((s.size : Int) != 24) = false := by rw [bne_eq_false_iff_eq]; omega
  have hx : ((s.extract 0 4).toList == [115, 101, 103, 45]) = true := by rw [ByteArray.toList_eq, ext_list, beq_iff_eq]; exact hf
  have hll : s.data.toList.length = 24 := by rw [str_size, hs]
  have hts : (s.extract 4 24).size = 20 := by simp [hs]
  have htl : (s.extract 4 24).data.toList = s.data.toList.drop 4 := by rw [ext_list, List.take_of_length_le]; rw [List.length_drop, hll]; decide
  have HNO : Hid (¬ allDig (s.extract 4 24).data.toList → numberF s.data.toList = (0, 3)) := Lib.hid (fun h => numberF_no (by rw [← htl]; exact h))
  have HOK : Hid (allDig (s.extract 4 24).data.toList → numberF s.data.toList = if digN (s.extract 4 24).data.toList < 18446744073709551616 then (digN (s.extract 4 24).data.toList, 0) else (0, 3)) := Lib.hid (fun h => by
    rw [htl] at h ⊢
    unfold numberF
    by_cases h2 : digN (s.data.toList.drop 4) < 18446744073709551616
    · rw [if_pos h2, if_pos ⟨hll, hf, h, h2⟩]
    · rw [if_neg h2, if_neg (fun ⟨_, _, _, h4⟩ => h2 h4)])
  clear hf hll htl
  generalize numberF s.data.toList = r at *
  go_enter Tryz.func15, Tryz.ntmps15
  go_wp2
  generalize hT : s.extract 4 24 = t at *
  have HT := Lib.hid hT
  clear hT
  go_loopw [5] (fun _ wr => ∃ pos : Nat, wr = w.iter t pos ∧ pos ≤ t.size ∧ Hid (allDig (t.data.toList.take pos))) (fun _ wr => t.size - wr.iterPos w.heap.size)
  case atStart => exact ⟨0, rfl, Nat.zero_le _, Lib.hid (by intro c hc; simp at hc)⟩
  case round =>
    obtain ⟨pos, rfl, hp0, HD⟩ := hrel
    by_cases hp : pos < t.size
    · have hnx : ∀ ty, (Instr.next (.pointer (some ⟨w.heap.size, 0, none⟩)) true ty).run Tryz.prog (w.iter t pos) = _ := fun ty => run_next_any w t pos ty hp
      have hdec := decode_ascii_iff t pos hp
      by_cases hc : 48 ≤ (t[pos]'hp).toNat ∧ (t[pos]'hp).toNat ≤ 57
      · have hd2 := hdec.2 hc
        have hw1 : (Utf8.decode t pos).2 = 1 := by rw [decode_ascii t pos hp (by omega)]
        have HC := Lib.hid hc
        rw [hw1] at hnx
        generalize Utf8.decode t pos = d at *
        have e1 : decide ((d.1 : Int) < 48) = false := by rw [decide_eq_false_iff_not]; omega
        have e2 : decide ((57 : Int) < (d.1 : Int)) = false := by rw [decide_eq_false_iff_not]; omega
        clear hc hdec hd2 hw1
        go_wp2
        go_roundw
        case rel => exact ⟨pos + 1, rfl, hp, Lib.hid (allDig_take t pos hp HD.out HC.out)⟩
        case measure => simp; omega
      · have hd2 := mt hdec.1 hc
        have HR := Lib.hid (HNO.out (allDig_no t pos hp hc))
        generalize Utf8.decode t pos = d at *
        clear hc hdec
        by_cases e1 : (d.1 : Int) < 48
        · go_wp2
          go_ret2
          rw [HR.out]
          exact ⟨rfl, iter_below _ _ _⟩
        · have e2 : (57 : Int) < (d.1 : Int) := by omega
          clear hd2
          go_wp2
          go_ret2
          rw [HR.out]
          exact ⟨rfl, iter_below _ _ _⟩
    · have hnx : ∀ ty, (Instr.next (.pointer (some ⟨w.heap.size, 0, none⟩)) true ty).run Tryz.prog (w.iter t pos) = _ := fun ty => run_next_end w t pos ty hp
      have hall : allDig t.data.toList := by
        have := HD.out
        rw [List.take_of_length_le (by rw [str_size]; omega)] at this
        exact this
      have hp2 := parse_dig0 t.data.toList (fun e => by have := congrArg List.length e; rw [str_size, hts] at this; simp at this) hall
      have hok := HOK.out hall
      have ht1 : t.size ≤ 9223372036854775806 := by omega
      have ht2 : t.size ≤ 281474976710656 := by omega
      by_cases hlt : digN t.data.toList < 18446744073709551616
      · rw [if_pos hlt] at hp2 hok
        have HP := Lib.hid hp2
        have HR := Lib.hid hok
        clear hp2 hok hall hlt
        go_wp2_with (go_at_call 43; rw [HT.out]; go_loud (with_reducible refine (Tryz.strconv_ParseUint_10_at64_ok t ht1 _ HP.out _).mono ?_); rintro e1 w1 ⟨rfl, hw1⟩)
        go_ret2
        rw [HR.out]
        refine ⟨rfl, ?_⟩
        rcases hw1 with rfl | rfl
        · exact iter_below _ _ _
        · exact below_then (iter_below _ _ _) (bytesWorld_below _ _ _)
      · rw [if_neg hlt] at hp2 hok
        have HP := Lib.hid hp2
        have HR := Lib.hid hok
        obtain ⟨tp2, p2, hv2⟩ := (hold _ (iter_below w t pos)).rng
        have HV := Lib.hid hv2
        clear hv2
        clear hp2 hok hall hlt
        go_wp2_with (go_at_call 43; rw [HT.out]; go_loud (with_reducible refine (Tryz.strconv_ParseUint_10_at64_range_var t ht2 HP.out tp2 p2 _ HV.out).mono ?_); rintro e1 w1 ⟨N, rfl, _, _, hb1⟩)
        go_ret2
        rw [HR.out]
        exact ⟨rfl, below_then (iter_below _ _ _) hb1⟩
theorem snumber_calls (s : ByteArray) (w : World) (hL : Laid8 w) :
    Calls Tryz.prog 15 #[.string s] w fun e w' => e = .returned (.tuple #[.int .u64 (numberF s.data.toList).1, .int .i64 (numberF s.data.toList).2]) ∧ Below w.heap.size w w' := by
  by_cases hs : s.size = 24
  · by_cases hf : s.data.toList.take 4 = frontL
    · exact number_loop s hs hf w hL
    · have e1 : numberF s.data.toList = (0, 3) := by unfold numberF; rw [if_neg (fun h => hf h.2.1)]
      rw [e1]
      exact (number_front s hs hf w).mono fun e w' ⟨h1, h2⟩ => ⟨h1, by rw [h2]; exact Below.refl _ _⟩
  · have e1 : numberF s.data.toList = (0, 3) := by unfold numberF; rw [if_neg (fun h => hs (by rw [← str_size]; exact h.1))]
    rw [e1]
    exact (number_len s hs w).mono fun e w' ⟨h1, h2⟩ => ⟨h1, by rw [h2]; exact Below.refl _ _⟩
/-- as a caller spells it -/
theorem numberN (s : ByteArray) (l : List UInt8) (hl : s.data.toList = l) (v e : Nat) (hr : numberF l = (v, e)) (w : World) (hL : Laid8 w) :
    Calls Tryz.prog 15 #[.string s] w fun r w' => r = .returned (.tuple #[.int .u64 v, .int .i64 e]) ∧ Below w.heap.size w w' := by
  have := snumber_calls s w hL
  rw [hl, hr] at this
  exact this
end Go.Proofs.YtpmnnnbkbcpgjaaGreatDoor

/- Plain laws on names of segments. -/
namespace Go.Proofs.YtpmnnnbkbcpgjaaGreatDoor
open Go.RowKit Go.Lib

/-- the lowest k digits of a number, the highest first -/
def padL (u : Nat) : Nat → List UInt8
  | 0 => []
  | k + 1 => UInt8.ofNat (48 + u / 10 ^ k % 10) :: padL u k
theorem padL_length (u : Nat) : ∀ k, (padL u k).length = k
  | 0 => rfl
  | k + 1 => by simp [padL, padL_length u k]
theorem dig_nat (d : Nat) (h : d < 10) : (UInt8.ofNat (48 + d)).toNat = 48 + d := by
  rw [UInt8.toNat_ofNat']; omega
theorem padL_dig (u : Nat) : ∀ k, allDig (padL u k)
  | 0 => by intro c hc; simp [padL] at hc
  | k + 1 => by
    intro c hc
    have hm : u / 10 ^ k % 10 < 10 := Nat.mod_lt _ (by decide)
    rcases List.mem_cons.1 hc with rfl | hc
    · rw [dig_nat _ hm]; omega
    · exact padL_dig u k c hc
theorem padL_congr (u v : Nat) : ∀ k, u % 10 ^ k = v % 10 ^ k → padL u k = padL v k
  | 0, _ => rfl
  | k + 1, h => by
    have h1 : u % 10 ^ k = v % 10 ^ k := by
      have e : u % 10 ^ (k + 1) % 10 ^ k = v % 10 ^ (k + 1) % 10 ^ k := by rw [h]
      rw [Nat.mod_mod_of_dvd _ (Nat.pow_dvd_pow 10 (Nat.le_succ k)), Nat.mod_mod_of_dvd _ (Nat.pow_dvd_pow 10 (Nat.le_succ k))] at e
      exact e
    have h2 : u / 10 ^ k % 10 = v / 10 ^ k % 10 := by
      have e : u % 10 ^ (k + 1) / 10 ^ k = v % 10 ^ (k + 1) / 10 ^ k := by rw [h]
      rw [Nat.pow_succ, Nat.mod_mul_right_div_self, Nat.mod_mul_right_div_self] at e
      exact e
    rw [padL, padL, h2, padL_congr u v k h1]
theorem digN_shift (l : List UInt8) : ∀ acc : Nat, l.foldl (fun v c => v * 10 + (c.toNat - 48)) acc = acc * 10 ^ l.length + digN l := by
  induction l with
  | nil => intro acc; simp [digN]
  | cons c l ih =>
    intro acc
    unfold digN
    rw [List.foldl_cons, List.foldl_cons, ih, ih, List.length_cons, Nat.pow_succ, Nat.add_mul, Nat.add_mul]
    have e : acc * 10 * 10 ^ l.length = acc * (10 ^ l.length * 10) := by rw [Nat.mul_assoc, Nat.mul_comm 10]
    omega
theorem digN_cons (c : UInt8) (l : List UInt8) : digN (c :: l) = (c.toNat - 48) * 10 ^ l.length + digN l := by
  have := digN_shift l (0 * 10 + (c.toNat - 48))
  unfold digN at *
  rw [List.foldl_cons, this]
  simp
theorem digN_pad (u : Nat) : ∀ k, digN (padL u k) = u % 10 ^ k
  | 0 => by simp [padL, digN, Nat.mod_one]
  | k + 1 => by
    have hm : u / 10 ^ k % 10 < 10 := Nat.mod_lt _ (by decide)
    rw [padL, digN_cons, dig_nat _ hm, padL_length, digN_pad u k, Nat.pow_succ, Nat.mod_mul, Nat.add_sub_cancel_left, Nat.mul_comm]
    omega
theorem digN_lt (l : List UInt8) (h : allDig l) : digN l < 10 ^ l.length := by
  induction l with
  | nil => decide
  | cons c l ih =>
    have hc := h c (by simp)
    have := ih fun x hx => h x (by simp [hx])
    rw [digN_cons, List.length_cons, Nat.pow_succ]
    have h9 : (c.toNat - 48) * 10 ^ l.length ≤ 9 * 10 ^ l.length := Nat.mul_le_mul_right _ (by omega)
    omega
theorem pad_digN (l : List UInt8) (h : allDig l) : padL (digN l) l.length = l := by
  induction l with
  | nil => rfl
  | cons c l ih =>
    have hc := h c (by simp)
    have hd : allDig l := fun x hx => h x (by simp [hx])
    have hlt := digN_lt l hd
    have hp : 0 < 10 ^ l.length := Nat.pow_pos (by decide)
    rw [digN_cons, List.length_cons, padL]
    have e1 : ((c.toNat - 48) * 10 ^ l.length + digN l) / 10 ^ l.length = c.toNat - 48 := by
      rw [Nat.mul_comm, Nat.mul_add_div hp, Nat.div_eq_of_lt hlt, Nat.add_zero]
    have e2 : padL ((c.toNat - 48) * 10 ^ l.length + digN l) l.length = padL (digN l) l.length := padL_congr _ _ _ (by rw [Nat.mul_comm, Nat.mul_add_mod])
    rw [e1, e2, ih hd]
    congr 1
    apply UInt8.toNat_inj.1
    rw [show (c.toNat - 48) % 10 = c.toNat - 48 by omega, dig_nat _ (by omega)]
    omega
theorem pow20 : (10 : Nat) ^ 20 = 100000000000000000000 := by decide
theorem digs_pad (u : Nat) : ∀ k, nDigits u ≤ k → padL u k = List.replicate (k - nDigits u) 48 ++ decDigits u := by
  have hlt := lt_pow_nDigits u
  have hbase : padL u (nDigits u) = decDigits u := by
    rw [decDigits_eq]
    have : ∀ (n : Nat), Nat → padL u n = (List.range n).map fun t => UInt8.ofNat (48 + u / 10 ^ (n - 1 - t) % 10) := by
      intro n _
      induction n with
      | zero => rfl
      | succ n ih =>
        rw [padL, ih, List.range_succ_eq_map, List.map_cons, List.map_map]
        congr 1
        apply List.map_congr_left
        intro t _
        simp only [Function.comp]
        congr 4
        rw [show n + 1 - 1 - (t + 1) = n - 1 - t by omega]
    rw [this _ 0]
    apply List.map_congr_left
    intro t _
    first
      | rfl
      | simp [dg]
  intro k hk
  induction k with
  | zero =>
    have : nDigits u = 0 := by omega
    rw [this] at hbase ⊢
    simpa using hbase
  | succ k ih =>
    by_cases he : nDigits u = k + 1
    · rw [← he, hbase]; simp
    · have h1 : nDigits u ≤ k := by omega
      have h2 : u / 10 ^ k = 0 := Nat.div_eq_of_lt (Nat.lt_of_lt_of_le hlt (Nat.pow_le_pow_right (by decide) h1))
      rw [padL, ih h1, h2, show k + 1 - nDigits u = (k - nDigits u) + 1 by omega, List.replicate_succ, List.cons_append]
      rfl
theorem nameL_pad (u : Nat) (h : u < 18446744073709551616) : nameL u = frontL ++ padL u 20 := by
  have hd := decDigits_small u h
  rw [decDigits_length] at hd
  rw [digs_pad u 20 hd]
  unfold nameL frontL
  rw [decDigits_length]
  congr 2
  generalize 20 - nDigits u = n
  induction n with
  | zero => rfl
  | succ n ih => rw [List.replicate_succ, ← ih]; rfl
/-- the sum of a name's digits as the document adds it up -/
def docV (l : List UInt8) : Nat := l.foldl (fun v c => (10 * v + c.toNat + 18446744073709551568) % 18446744073709551616) 0
theorem docV_dig (l : List UInt8) : ∀ (a b : Nat), allDig l → a = b % 18446744073709551616 → l.foldl (fun v c => (10 * v + c.toNat + 18446744073709551568) % 18446744073709551616) a = (l.foldl (fun v c => v * 10 + (c.toNat - 48)) b) % 18446744073709551616 := by
  induction l with
  | nil => intro a b _ h; exact h
  | cons c l ih =>
    intro a b hd h
    have hc := hd c (by simp)
    rw [List.foldl_cons, List.foldl_cons]
    exact ih _ _ (fun x hx => hd x (by simp [hx])) (by omega)
theorem docV_lt (l : List UInt8) : docV l < 18446744073709551616 := by
  have : ∀ (l : List UInt8) (a : Nat), a < 18446744073709551616 → l.foldl (fun v c => (10 * v + c.toNat + 18446744073709551568) % 18446744073709551616) a < 18446744073709551616 := by
    intro l
    induction l with
    | nil => intro a h; exact h
    | cons c l ih => intro a _; rw [List.foldl_cons]; exact ih _ (by omega)
  exact this l 0 (by omega)
/-- a name that is what the number's name is -/
theorem numberF_doc (l : List UInt8) : numberF l = if nameL (docV (l.drop 4)) = l then (docV (l.drop 4), 0) else (0, 3) := by
  have hlt := docV_lt (l.drop 4)
  by_cases h : nameL (docV (l.drop 4)) = l
  · rw [if_pos h]
    generalize docV (l.drop 4) = v at *
    rw [nameL_pad v hlt] at h
    subst h
    have h20 : v % 10 ^ 20 = v := Nat.mod_eq_of_lt (by rw [pow20]; omega)
    have hd : (frontL ++ padL v 20).drop 4 = padL v 20 := rfl
    unfold numberF
    rw [hd, digN_pad, h20, if_pos ⟨by rw [List.length_append, padL_length]; rfl, rfl, padL_dig v 20, hlt⟩]
  · rw [if_neg h]
    unfold numberF
    rw [if_neg]
    rintro ⟨h1, h2, h3, h4⟩
    apply h
    have hv : docV (l.drop 4) = digN (l.drop 4) := by
      have := docV_dig (l.drop 4) 0 0 h3 rfl
      unfold docV
      rw [this]
      exact Nat.mod_eq_of_lt h4
    have hl : (l.drop 4).length = 20 := by rw [List.length_drop, h1]
    have hp := pad_digN (l.drop 4) h3
    rw [hl] at hp
    rw [nameL_pad _ hlt, hv, hp, ← h2, List.take_append_drop]
theorem numberF_name (v : Nat) (h : v < 18446744073709551616) : numberF (nameL v) = (v, 0) := by
  have hd : (nameL v).drop 4 = padL v 20 := by rw [nameL_pad v h]; rfl
  have h20 : v % 10 ^ 20 = v := Nat.mod_eq_of_lt (by rw [pow20]; omega)
  have hv : docV (padL v 20) = v := by
    have := docV_dig (padL v 20) 0 0 (padL_dig v 20) rfl
    have e : (padL v 20).foldl (fun v c => v * 10 + (c.toNat - 48)) 0 = digN (padL v 20) := rfl
    rw [e, digN_pad, h20] at this
    unfold docV
    rw [this]
    exact Nat.mod_eq_of_lt h
  rw [numberF_doc, hd, hv, if_pos rfl]
theorem numberF_lt (l : List UInt8) : (numberF l).1 < 18446744073709551616 := by
  unfold numberF
  split
  · rename_i h; exact h.2.2.2
  · decide
theorem padL_lt : ∀ (k u v : Nat), u < 10 ^ k → v < 10 ^ k → u < v → padL u k < padL v k
  | 0, u, v, hu, hv, h => by simp at hu hv; omega
  | k + 1, u, v, hu, hv, h => by
    have hp : 0 < 10 ^ k := Nat.pow_pos (by decide)
    rw [Nat.pow_succ, Nat.mul_comm] at hu hv
    have du : u / 10 ^ k < 10 := Nat.div_lt_of_lt_mul (by rw [Nat.mul_comm]; exact hu)
    have dv : v / 10 ^ k < 10 := Nat.div_lt_of_lt_mul (by rw [Nat.mul_comm]; exact hv)
    have hle : u / 10 ^ k ≤ v / 10 ^ k := Nat.div_le_div_right (Nat.le_of_lt h)
    rw [padL, padL, Nat.mod_eq_of_lt du, Nat.mod_eq_of_lt dv]
    by_cases he : u / 10 ^ k = v / 10 ^ k
    · rw [he]
      have hm : u % 10 ^ k < v % 10 ^ k := by
        have h1 := Nat.div_add_mod u (10 ^ k)
        have h2 := Nat.div_add_mod v (10 ^ k)
        rw [he] at h1
        omega
      have := padL_lt k (u % 10 ^ k) (v % 10 ^ k) (Nat.mod_lt _ hp) (Nat.mod_lt _ hp) hm
      rw [padL_congr u (u % 10 ^ k) k (Nat.mod_mod ..).symm, padL_congr v (v % 10 ^ k) k (Nat.mod_mod ..).symm]
      exact List.cons_lt_cons_self.2 this
    · refine List.Lex.rel ?_
      rw [UInt8.lt_iff_toNat_lt, dig_nat _ du, dig_nat _ dv]
      omega
theorem nameL_lt (u v : Nat) (hu : u < 18446744073709551616) (hv : v < 18446744073709551616) (h : u < v) : nameL u < nameL v := by
  have := padL_lt 20 u v (by rw [pow20]; omega) (by rw [pow20]; omega) h
  rw [nameL_pad u hu, nameL_pad v hv]
  unfold frontL
  exact List.cons_lt_cons_self.2 (List.cons_lt_cons_self.2 (List.cons_lt_cons_self.2 (List.cons_lt_cons_self.2 this)))
theorem nameL_length (u : Nat) (h : u < 18446744073709551616) : (nameL u).length = 24 := by rw [nameL_pad u h, List.length_append, padL_length]; rfl
end Go.Proofs.YtpmnnnbkbcpgjaaGreatDoor

/- The walks of the document's DocName and DocNumber. -/
namespace Go.Proofs.YtpmnnnbkbcpgjaaGreatDoor
open Go.RowKit Go.Lib

theorem padL_set (u k : Nat) (hk : k < 20) : (List.replicate (20 - k) 0 ++ padL u k).set (19 - k) (UInt8.ofNat (48 + u / 10 ^ k % 10)) = List.replicate (20 - (k + 1)) 0 ++ padL u (k + 1) := by
  have e : 20 - k = (20 - (k + 1)) + 1 := by omega
  rw [e, List.replicate_succ', List.append_assoc, List.set_append_right _ _ (by simp)]
  congr 1
  rw [List.length_replicate, show 19 - k - (20 - (k + 1)) = 0 by omega]
  rfl
theorem rem10 (y : Nat) : 48 + (y : Int) % 10 = uB (UInt8.ofNat (48 + y % 10)) := by
  rw [uB_ofNat]; omega
set_option maxRecDepth 100000 in
theorem docName_calls (u : Nat) (hu : u < 18446744073709551616) (w : World) :
    Calls Tryz.prog 14 #[.int .u64 u] w fun e w' => e = .returned (.string ⟨(nameL u).toArray⟩) ∧ Below w.heap.size w w' := by
  have hcat : (⟨#[115, 101, 103, 45]⟩ ++ strOf (padL u 20) : ByteArray) = ⟨(nameL u).toArray⟩ := by
    rw [nameL_pad u hu]
    apply ByteArray.ext
    simp [frontL, strOf]
  have h24 : ¬ 9223372036854775807 < 4 + (strOf (padL u 20)).size := by
    have : (strOf (padL u 20)).size = 20 := by rw [← str_size]; simp [strOf, padL_length]
    omega
  have HC := Lib.hid hcat
  clear hcat
  go_enter Tryz.func14, Tryz.ntmps14
  go_wp2_with (refine wp_makeB bt rfl _ _ rfl .i64 .i64 20 20 rfl rfl rfl (by decide) w.heap.size (Nat.le_refl _) fun w1 ho hb => ?_)
  go_loopw [0, 4] (fun x i wr => ∃ k y : Nat, k ≤ 20 ∧ x = .int .u64 y ∧ Hid (y = u / 10 ^ k) ∧ i = .int .i64 (19 - (k : Int)) ∧ OB wr w.heap.size 5 (.slice (some ⟨w.heap.size, 0, none⟩) 20 20) (List.replicate (20 - k) 0 ++ padL u k) ∧ Below w.heap.size w wr) (fun _ i _ => (RowKit.intOf i + 1).toNat)
  case atStart => exact ⟨0, u, by decide, rfl, Lib.hid (by simp), by simp, by simpa [padL] using ho, hb⟩
  case round =>
    obtain ⟨k, y, hk, rfl, HY, rfl, HO, HB⟩ := hrel
    by_cases hlt : k < 20
    · have i0 : (0 : Int) ≤ 19 - (k : Int) := by omega
      have i1 : 19 - (k : Int) < 20 := by omega
      obtain ⟨c0, f0⟩ := HO.cell (19 - k) (by simp [padL_length]; omega)
      have hy : y < 18446744073709551616 := by have := HY.out; have := Nat.div_le_self u (10 ^ k); omega
      have S := (HO.set (19 - k) (UInt8.ofNat (48 + y % 10))).1
      rw [show UInt8.ofNat (48 + y % 10) = UInt8.ofNat (48 + u / 10 ^ k % 10) by rw [HY.out], padL_set u k hlt] at S
      have HS := Lib.hid S
      have HR := Lib.hid (rem10 y)
      clear S
      go_wp2
      go_roundw
      case rel =>
        rw [HR.out]
        have e2 : uB (UInt8.ofNat (48 + y % 10)) = uB (UInt8.ofNat (48 + u / 10 ^ k % 10)) := by rw [HY.out]
        rw [e2]
        exact ⟨k + 1, y / 10, by omega, rfl, Lib.hid (by rw [HY.out, Nat.pow_succ, Nat.div_div_eq_div_mul]), by congr 1; omega, HS.out, HB.setCell (Nat.le_refl _) _⟩
      case measure => simp [RowKit.intOf]; omega
    · obtain rfl : k = 20 := by omega
      have hrs := run_str wr (some ⟨w.heap.size, 0, none⟩) 20 20 (padL u 20) (by simpa using HO.reads) (by rw [padL_length])
      have i0 : ¬ (0 : Int) ≤ 19 - ((20 : Nat) : Int) := by omega
      clear HO hlt
      generalize strOf (padL u 20) = t at *
      go_wp2
      go_ret
      rw [HC.out]
      exact ⟨rfl, HB⟩
theorem docNameR (u : Nat) (hu : u < 18446744073709551616) (V : Int) (hV : V = u) (l : List UInt8) (hl : nameL u = l) (w : World) :
    Calls Tryz.prog 14 #[.int .u64 V] w fun e w' => e = .returned (.string ⟨l.toArray⟩) ∧ Below w.heap.size w w' := by
  subst hV; subst hl; exact docName_calls u hu w
theorem docV_step (l : List UInt8) (k : Nat) (c : UInt8) (h : l[k]? = some c) : docV (l.take (k + 1)) = (10 * docV (l.take k) + c.toNat + 18446744073709551568) % 18446744073709551616 := by
  rw [List.take_add_one, h]
  unfold docV
  rw [List.foldl_append, Option.toList_some, List.foldl_cons, List.foldl_nil]
theorem docStep (v : Nat) (c : UInt8) : IntKind.u64.wrap (IntKind.u64.wrap (IntKind.u64.wrap (10 * (v : Int)) + IntKind.u64.wrap (c.toNat : Int)) - 48) = (((10 * v + c.toNat + 18446744073709551568) % 18446744073709551616 : Nat) : Int) := by
  have := c.toNat_lt
  rw [IntKind.wrap_u64, IntKind.wrap_u64, IntKind.wrap_u64, IntKind.wrap_u64]
  omega
set_option maxRecDepth 100000 in
theorem docNumber_calls (s : ByteArray) (hs : s.size ≤ 140737488355328) (w : World) :
    Calls Tryz.prog 16 #[.string s] w fun e w' => e = .returned (.tuple #[.int .u64 (numberF s.data.toList).1, .int .i64 (numberF s.data.toList).2]) ∧ Below w.heap.size w w' := by
  have HDOC := Lib.hid (numberF_doc s.data.toList)
  generalize numberF s.data.toList = r at *
  have hlen := str_size s
  go_enter Tryz.func16, Tryz.ntmps16
  go_wp2
  go_loopw [4, 5] (fun x i wr => ∃ k v : Nat, k ≤ s.size - 4 ∧ x = .int .u64 v ∧ v < 18446744073709551616 ∧ Hid (v = docV ((s.data.toList.drop 4).take k)) ∧ i = .int .i64 (4 + (k : Int)) ∧ w = wr) (fun _ i _ => s.size - (RowKit.intOf i).toNat)
  case atStart => exact ⟨0, 0, Nat.zero_le _, rfl, by decide, Lib.hid rfl, rfl, rfl⟩
  case round =>
    obtain ⟨k, v, hk, rfl, hv, HV, rfl, rfl⟩ := hrel
    by_cases hlt : 4 + k < s.size
    · have i0 : (0 : Int) ≤ 4 + (k : Int) := by omega
      have i1 : 4 + (k : Int) < s.size := by omega
      have HS := Lib.hid (docStep v (s[4 + k]'hlt))
      have HV2 := Lib.hid (docV_step (s.data.toList.drop 4) k (s[4 + k]'hlt) (by rw [List.getElem?_drop]; exact byte_at s (4 + k) hlt))
      go_wp2
      go_roundw
      case rel =>
        rw [HS.out]
        exact ⟨k + 1, _, by omega, rfl, Nat.mod_lt _ (by decide), Lib.hid (by rw [HV2.out, HV.out]), by go_num, trivial⟩
      case measure => simp [RowKit.intOf]; omega
    · have i1 : ¬ 4 + (k : Int) < s.size := by omega
      have HK := Lib.hid (show v = docV (s.data.toList.drop 4) by rw [HV.out, List.take_of_length_le]; rw [List.length_drop, hlen]; omega)
      have hcmp : (nameL v == s.toList) = (nameL v == s.data.toList) := by rw [ByteArray.toList_eq]
      by_cases hn : nameL v = s.data.toList
      · have hb : (nameL v == s.toList) = true := by rw [hcmp, hn]; simp
        have HR : Hid (r = (v, 0)) := Lib.hid (by rw [HDOC.out, ← HK.out, if_pos hn])
        clear hn hcmp
        go_wp2_with (go_at_call 14; (with_reducible refine (docNameR v hv _ rfl _ rfl _).mono ?_); rintro e1 w1 ⟨rfl, hb1⟩)
        go_ret2
        rw [HR.out]
        exact ⟨rfl, hb1⟩
      · have hb : (nameL v == s.toList) = false := by rw [hcmp, beq_eq_false_iff_ne]; exact hn
        have HR : Hid (r = (0, 3)) := Lib.hid (by rw [HDOC.out, ← HK.out, if_neg hn])
        clear hn hcmp
        go_wp2_with (go_at_call 14; (with_reducible refine (docNameR v hv _ rfl _ rfl _).mono ?_); rintro e1 w1 ⟨rfl, hb1⟩)
        go_ret2
        rw [HR.out]
        exact ⟨rfl, hb1⟩
end Go.Proofs.YtpmnnnbkbcpgjaaGreatDoor
