import Derived.Test.YtpmnnnbkbcpgjaaGreatDoorQSegAwake
/- The walk of notarylaw08.SegmentNames. Printed by wip/gen_segnames.py. -/
namespace Go.Proofs.YtpmnnnbkbcpgjaaGreatDoor
open Go.RowKit Go.Lib

theorem nameN (u : Nat) (hu : u < 18446744073709551616) (V : Int) (hV : V = u) (l : List UInt8) (hl : nameL u = l) (w : World) (hL : Laid8 w) :
    Calls Tryz.prog 13 #[.int .u64 V] w fun e w' => e = .returned (.string ⟨l.toArray⟩) ∧ Below w.heap.size w w' := by
  subst hV; subst hl; exact name_calls u hu w hL.tab
theorem docNumN (s : ByteArray) (hs : s.size ≤ 140737488355328) (v e : Nat) (hr : numberF s.data.toList = (v, e)) (w : World) :
    Calls Tryz.prog 16 #[.string s] w fun r w' => r = .returned (.tuple #[.int .u64 v, .int .i64 e]) ∧ Below w.heap.size w w' := by
  have := docNumber_calls s hs w
  rw [hr] at this
  exact this
theorem less_cons (c : UInt8) (l m : List UInt8) (h : Op.bytesLess l m = true) : Op.bytesLess (c :: l) (c :: m) = true := by
  simp [Op.bytesLess, h]
theorem less_head (c d : UInt8) (l m : List UInt8) (h : c < d) : Op.bytesLess (c :: l) (d :: m) = true := by
  simp [Op.bytesLess, h]
theorem padL_less : ∀ (k u v : Nat), u < 10 ^ k → v < 10 ^ k → u < v → Op.bytesLess (padL u k) (padL v k) = true
  | 0, u, v, hu, hv, h => by simp at hu hv; omega
  | k + 1, u, v, hu, hv, h => by
    have hp : 0 < 10 ^ k := Nat.pow_pos (by decide)
    rw [Nat.pow_succ, Nat.mul_comm] at hu hv
    have du : u / 10 ^ k < 10 := Nat.div_lt_of_lt_mul (by rw [Nat.mul_comm]; exact hu)
    have dv : v / 10 ^ k < 10 := Nat.div_lt_of_lt_mul (by rw [Nat.mul_comm]; exact hv)
    have hle : u / 10 ^ k ≤ v / 10 ^ k := Nat.div_le_div_right (Nat.le_of_lt h)
    rw [padL, padL, Nat.mod_eq_of_lt du, Nat.mod_eq_of_lt dv]
    by_cases he : u / 10 ^ k = v / 10 ^ k
    · rw [he]
      have hm : u % 10 ^ k < v % 10 ^ k := by
        have h1 := Nat.div_add_mod u (10 ^ k)
        have h2 := Nat.div_add_mod v (10 ^ k)
        rw [he] at h1
        omega
      have := padL_less k (u % 10 ^ k) (v % 10 ^ k) (Nat.mod_lt _ hp) (Nat.mod_lt _ hp) hm
      rw [padL_congr u (u % 10 ^ k) k (Nat.mod_mod ..).symm, padL_congr v (v % 10 ^ k) k (Nat.mod_mod ..).symm]
      exact less_cons _ _ _ this
    · have h1 : UInt8.ofNat (48 + u / 10 ^ k) < UInt8.ofNat (48 + v / 10 ^ k) := by
        rw [UInt8.lt_iff_toNat_lt, dig_nat _ du, dig_nat _ dv]
        omega
      exact less_head _ _ _ _ h1
theorem nameL_less (u v : Nat) (hu : u < 18446744073709551616) (hv : v < 18446744073709551616) (h : u < v) : Op.bytesLess (nameL u) (nameL v) = true := by
  have := padL_less 20 u v (by rw [pow20]; omega) (by rw [pow20]; omega) h
  rw [nameL_pad u hu, nameL_pad v hv]
  unfold frontL
  exact less_cons _ _ _ (less_cons _ _ _ (less_cons _ _ _ (less_cons _ _ _ this)))
set_option maxHeartbeats 800000 in
set_option maxRecDepth 100000 in
theorem segmentNames_lt (a b : Nat) (ha : a < 18446744073709551616) (hb : b < 18446744073709551616) (hab : a < b) (s : ByteArray) (hs : s.size ≤ 140737488355328) (w : World) (hL : Laid8 w) :
    Calls Tryz.prog 3 #[.int .u64 a, .int .u64 b, .string s] w fun r w' => r = .returned (.bool true) ∧ Below w.heap.size w w' := by
  have HL := Lib.hid hL
  obtain ⟨la, hla⟩ : ∃ l, nameL a = l := ⟨_, rfl⟩
  obtain ⟨lb, hlb⟩ : ∃ l, nameL b = l := ⟨_, rfl⟩
  have HA := Lib.hid hla
  have HB := Lib.hid hlb
  obtain ⟨v, e, hv⟩ : ∃ v e, numberF s.data.toList = (v, e) := ⟨_, _, rfl⟩
  have HV := Lib.hid hv
  have hx : (la == la) = true := beq_self_eq_true _
  have hy : (lb == lb) = true := beq_self_eq_true _
  have hlt : Op.bytesLess la lb = true := by rw [← hla, ← hlb]; exact nameL_less a b ha hb hab
  have HNA := Lib.hid (show numberF la = (a, 0) by rw [← hla]; exact numberF_name a ha)
  have hvv : ((v : Int) == v) = true := beq_self_eq_true _
  have hee : ((e : Int) == e) = true := beq_self_eq_true _
  have haa : ((a : Int) == a) = true := beq_self_eq_true _
  clear hL hla hlb hv
  go_enter Tryz.func3, Tryz.ntmps3
  go_wp2_with (first
    | (go_at_call 12; (with_reducible refine (awake8_calls _ HL.out).mono ?_); rintro x1 w1 ⟨rfl, hb1⟩; have tk1 := trivial)
    | (go_at_call 13; have tk := tk1; clear tk tk1; (with_reducible refine (nameN a ha _ rfl la HA.out _ (HL.out.below hb1)).mono ?_); rintro x2 w2 ⟨rfl, hb2⟩; have B2 := Lib.hid (below_then hb1 hb2); have tk2 := trivial)
    | (go_at_call 13; have tk := tk2; clear tk tk2; (with_reducible refine (nameN b hb _ rfl lb HB.out _ (HL.out.below B2.out)).mono ?_); rintro x3 w3 ⟨rfl, hb3⟩; have B3 := Lib.hid (below_then B2.out hb3); have tk3 := trivial)
    | (go_at_call 14; have tk := tk3; clear tk tk3; (with_reducible refine (docNameR a ha _ rfl la HA.out _).mono ?_); rintro x4 w4 ⟨rfl, hb4⟩; have B4 := Lib.hid (below_then B3.out hb4); have tk4 := trivial)
    | (go_at_call 14; have tk := tk4; clear tk tk4; (with_reducible refine (docNameR b hb _ rfl lb HB.out _).mono ?_); rintro x5 w5 ⟨rfl, hb5⟩; have B5 := Lib.hid (below_then B4.out hb5); have tk5 := trivial)
    | (go_at_call 15; have tk := tk5; clear tk tk5; (with_reducible refine (numberN s _ rfl v e HV.out _ (HL.out.below B5.out)).mono ?_); rintro x6 w6 ⟨rfl, hb6⟩; have B6 := Lib.hid (below_then B5.out hb6))
    | (go_at_call 16; (with_reducible refine (docNumN s hs v e HV.out _).mono ?_); rintro x7 w7 ⟨rfl, hb7⟩; have B7 := Lib.hid (below_then B6.out hb7); have tk7 := trivial)
    | (go_at_call 15; have tk := tk7; clear tk tk7; (with_reducible refine (numberN _ la rfl a 0 HNA.out _ (HL.out.below B7.out)).mono ?_); rintro x8 w8 ⟨rfl, hb8⟩; have B8 := Lib.hid (below_then B7.out hb8)))
  go_ret
  exact ⟨rfl, B8.out⟩
set_option maxHeartbeats 800000 in
set_option maxRecDepth 100000 in
theorem segmentNames_gt (a b : Nat) (ha : a < 18446744073709551616) (hb : b < 18446744073709551616) (hab : b < a) (s : ByteArray) (hs : s.size ≤ 140737488355328) (w : World) (hL : Laid8 w) :
    Calls Tryz.prog 3 #[.int .u64 a, .int .u64 b, .string s] w fun r w' => r = .returned (.bool true) ∧ Below w.heap.size w w' := by
  have HL := Lib.hid hL
  obtain ⟨la, hla⟩ : ∃ l, nameL a = l := ⟨_, rfl⟩
  obtain ⟨lb, hlb⟩ : ∃ l, nameL b = l := ⟨_, rfl⟩
  have HA := Lib.hid hla
  have HB := Lib.hid hlb
  obtain ⟨v, e, hv⟩ : ∃ v e, numberF s.data.toList = (v, e) := ⟨_, _, rfl⟩
  have HV := Lib.hid hv
  have hx : (la == la) = true := beq_self_eq_true _
  have hy : (lb == lb) = true := beq_self_eq_true _
  have HNA := Lib.hid (show numberF la = (a, 0) by rw [← hla]; exact numberF_name a ha)
  have hvv : ((v : Int) == v) = true := beq_self_eq_true _
  have hee : ((e : Int) == e) = true := beq_self_eq_true _
  have haa : ((a : Int) == a) = true := beq_self_eq_true _
  clear hL hla hlb hv
  go_enter Tryz.func3, Tryz.ntmps3
  go_wp2_with (first
    | (go_at_call 12; (with_reducible refine (awake8_calls _ HL.out).mono ?_); rintro x1 w1 ⟨rfl, hb1⟩; have tk1 := trivial)
    | (go_at_call 13; have tk := tk1; clear tk tk1; (with_reducible refine (nameN a ha _ rfl la HA.out _ (HL.out.below hb1)).mono ?_); rintro x2 w2 ⟨rfl, hb2⟩; have B2 := Lib.hid (below_then hb1 hb2); have tk2 := trivial)
    | (go_at_call 13; have tk := tk2; clear tk tk2; (with_reducible refine (nameN b hb _ rfl lb HB.out _ (HL.out.below B2.out)).mono ?_); rintro x3 w3 ⟨rfl, hb3⟩; have B3 := Lib.hid (below_then B2.out hb3); have tk3 := trivial)
    | (go_at_call 14; have tk := tk3; clear tk tk3; (with_reducible refine (docNameR a ha _ rfl la HA.out _).mono ?_); rintro x4 w4 ⟨rfl, hb4⟩; have B4 := Lib.hid (below_then B3.out hb4); have tk4 := trivial)
    | (go_at_call 14; have tk := tk4; clear tk tk4; (with_reducible refine (docNameR b hb _ rfl lb HB.out _).mono ?_); rintro x5 w5 ⟨rfl, hb5⟩; have B5 := Lib.hid (below_then B4.out hb5); have tk5 := trivial)
    | (go_at_call 15; have tk := tk5; clear tk tk5; (with_reducible refine (numberN s _ rfl v e HV.out _ (HL.out.below B5.out)).mono ?_); rintro x6 w6 ⟨rfl, hb6⟩; have B6 := Lib.hid (below_then B5.out hb6))
    | (go_at_call 16; (with_reducible refine (docNumN s hs v e HV.out _).mono ?_); rintro x7 w7 ⟨rfl, hb7⟩; have B7 := Lib.hid (below_then B6.out hb7); have tk7 := trivial)
    | (go_at_call 15; have tk := tk7; clear tk tk7; (with_reducible refine (numberN _ la rfl a 0 HNA.out _ (HL.out.below B7.out)).mono ?_); rintro x8 w8 ⟨rfl, hb8⟩; have B8 := Lib.hid (below_then B7.out hb8)))
  go_ret
  exact ⟨rfl, B8.out⟩
set_option maxHeartbeats 800000 in
set_option maxRecDepth 100000 in
theorem segmentNames_eq (a : Nat) (ha : a < 18446744073709551616) (s : ByteArray) (hs : s.size ≤ 140737488355328) (w : World) (hL : Laid8 w) :
    Calls Tryz.prog 3 #[.int .u64 a, .int .u64 a, .string s] w fun r w' => r = .returned (.bool true) ∧ Below w.heap.size w w' := by
  have HL := Lib.hid hL
  obtain ⟨la, hla⟩ : ∃ l, nameL a = l := ⟨_, rfl⟩
  have HA := Lib.hid hla
  obtain ⟨v, e, hv⟩ : ∃ v e, numberF s.data.toList = (v, e) := ⟨_, _, rfl⟩
  have HV := Lib.hid hv
  have hx : (la == la) = true := beq_self_eq_true _
  have HNA := Lib.hid (show numberF la = (a, 0) by rw [← hla]; exact numberF_name a ha)
  have hvv : ((v : Int) == v) = true := beq_self_eq_true _
  have hee : ((e : Int) == e) = true := beq_self_eq_true _
  have haa : ((a : Int) == a) = true := beq_self_eq_true _
  clear hL hla hv
  go_enter Tryz.func3, Tryz.ntmps3
  go_wp2_with (first
    | (go_at_call 12; (with_reducible refine (awake8_calls _ HL.out).mono ?_); rintro x1 w1 ⟨rfl, hb1⟩; have tk1 := trivial)
    | (go_at_call 13; have tk := tk1; clear tk tk1; (with_reducible refine (nameN a ha _ rfl la HA.out _ (HL.out.below hb1)).mono ?_); rintro x2 w2 ⟨rfl, hb2⟩; have B2 := Lib.hid (below_then hb1 hb2); have tk2 := trivial)
    | (go_at_call 13; have tk := tk2; clear tk tk2; (with_reducible refine (nameN a ha _ rfl la HA.out _ (HL.out.below B2.out)).mono ?_); rintro x3 w3 ⟨rfl, hb3⟩; have B3 := Lib.hid (below_then B2.out hb3); have tk3 := trivial)
    | (go_at_call 14; have tk := tk3; clear tk tk3; (with_reducible refine (docNameR a ha _ rfl la HA.out _).mono ?_); rintro x4 w4 ⟨rfl, hb4⟩; have B4 := Lib.hid (below_then B3.out hb4); have tk4 := trivial)
    | (go_at_call 14; have tk := tk4; clear tk tk4; (with_reducible refine (docNameR a ha _ rfl la HA.out _).mono ?_); rintro x5 w5 ⟨rfl, hb5⟩; have B5 := Lib.hid (below_then B4.out hb5); have tk5 := trivial)
    | (go_at_call 15; have tk := tk5; clear tk tk5; (with_reducible refine (numberN s _ rfl v e HV.out _ (HL.out.below B5.out)).mono ?_); rintro x6 w6 ⟨rfl, hb6⟩; have B6 := Lib.hid (below_then B5.out hb6))
    | (go_at_call 16; (with_reducible refine (docNumN s hs v e HV.out _).mono ?_); rintro x7 w7 ⟨rfl, hb7⟩; have B7 := Lib.hid (below_then B6.out hb7); have tk7 := trivial)
    | (go_at_call 15; have tk := tk7; clear tk tk7; (with_reducible refine (numberN _ la rfl a 0 HNA.out _ (HL.out.below B7.out)).mono ?_); rintro x8 w8 ⟨rfl, hb8⟩; have B8 := Lib.hid (below_then B7.out hb8)))
  go_ret
  exact ⟨rfl, B8.out⟩
theorem segmentNames_calls (a b : Int) (ha0 : 0 ≤ a) (ha : a ≤ 18446744073709551615) (hb0 : 0 ≤ b) (hb : b ≤ 18446744073709551615) (s : ByteArray) (hs : s.size ≤ 140737488355328) (w : World) (hL : Laid8 w) :
    Calls Tryz.prog 3 #[.int .u64 a, .int .u64 b, .string s] w fun r w' => r = .returned (.bool true) ∧ Below w.heap.size w w' := by
  obtain ⟨x, rfl⟩ := Int.eq_ofNat_of_zero_le ha0
  obtain ⟨y, rfl⟩ := Int.eq_ofNat_of_zero_le hb0
  rcases Nat.lt_trichotomy x y with h | h | h
  · exact segmentNames_lt x y (by omega) (by omega) h s hs w hL
  · subst h; exact segmentNames_eq x (by omega) s hs w hL
  · exact segmentNames_gt x y (by omega) (by omega) h s hs w hL
end Go.Proofs.YtpmnnnbkbcpgjaaGreatDoor
