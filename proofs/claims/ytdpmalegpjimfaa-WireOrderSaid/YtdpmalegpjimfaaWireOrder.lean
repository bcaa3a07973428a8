/- WireOrder. -/
import Derived.Test.YtdpmalegpjimfaaWireScript
import Derived.Test.YtdpmalegpjimfaaWireLaws
import Derived.Test.YtdpmalegpjimfaaWireMath2
namespace Go.Proofs.Ytdpmalegpjimfaa
open Go.RowKit
open WireMath (wideL beN)

theorem beN_app (p q : List UInt8) : beN (p ++ q) = beN p * 256 ^ q.length + beN q := by
  unfold WireMath.beN
  rw [List.foldl_append]
  exact foldl_be q _
/-- the first byte in which two lists differ decides -/
theorem beN_first (x y : List UInt8) (i : Nat) (hx : i < x.length) (hl : x.length = y.length) (hp : x.take i = y.take i) (hc : x[i].toNat < (y[i]'(by omega)).toNat) : beN x < beN y := by
  have ex : x = x.take i ++ (x[i] :: x.drop (i + 1)) := by rw [← List.drop_eq_getElem_cons hx, List.take_append_drop]
  have ey : y = y.take i ++ (y[i]'(by omega) :: y.drop (i + 1)) := by rw [← List.drop_eq_getElem_cons (by omega), List.take_append_drop]
  rw [ex, ey, beN_app, beN_app, hp, beN_cons, beN_cons]
  have h1 := WireMath.beN_lt (x.drop (i + 1)) (x.drop (i + 1)).length (Nat.le_refl _)
  have e : (x.drop (i + 1)).length = (y.drop (i + 1)).length := by rw [List.length_drop, List.length_drop, hl]
  simp only [List.length_cons, e] at h1 ⊢
  have h2 : (x[i].toNat + 1) * 256 ^ (y.drop (i + 1)).length ≤ (y[i]'(by omega)).toNat * 256 ^ (y.drop (i + 1)).length := Nat.mul_le_mul_right _ hc
  rw [Nat.add_mul, Nat.one_mul] at h2
  omega
/-- as numbers of a width stand, so stand their bytes -/
structure Order (x y : List UInt8) (a b : Nat) : Prop where
  len : x.length = y.length
  first : ∀ i (h : i < x.length), x.take i = y.take i → uB x[i] ≠ uB (y[i]'(by omega)) → (decide (uB x[i] < uB (y[i]'(by omega))) = decide (a < b))
  all : x = y → a = b
theorem order_wide (n a b : Nat) (ha : a < 256 ^ n) (hb : b < 256 ^ n) : Order (wideL a n) (wideL b n) a b := by
  have ea : beN (wideL a n) = a := by rw [beN_wideL, Nat.mod_eq_of_lt ha]
  have eb : beN (wideL b n) = b := by rw [beN_wideL, Nat.mod_eq_of_lt hb]
  have hl : (wideL a n).length = (wideL b n).length := by rw [WireMath.wideL_length, WireMath.wideL_length]
  refine ⟨hl, fun i h hp hne => ?_, fun h => by rw [← ea, ← eb, h]⟩
  have hi : i < (wideL b n).length := by omega
  unfold uB at hne ⊢
  by_cases hlt : (wideL a n)[i].toNat < (wideL b n)[i].toNat
  · have := beN_first _ _ i h hl hp hlt
    rw [ea, eb] at this
    rw [decide_eq_true (by omega), decide_eq_true this]
  · have := beN_first _ _ i hi hl.symm hp.symm (by omega)
    rw [ea, eb] at this
    rw [decide_eq_false (by omega), decide_eq_false (by omega)]

theorem Ops.oneV (w : World) (k : Int) (v : Nat) (ho : OpOk w ⟨k, v, 0, none, 0, []⟩) (t : TypeId) : Ops (w.alloc (.cells #[.int .i64 k, .int .u64 v, .int .i64 0, .slice none 0 0] t)) (some ⟨w.heap.size, 0, none⟩) [⟨k, v, 0, none, 0, []⟩] := Ops.one w _ ho t
set_option maxHeartbeats 400000 in
set_option maxRecDepth 100000 in
theorem wireOrder_calls (k : Int) (hk : -9223372036854775808 ≤ k ∧ k ≤ 9223372036854775807) (a b : Nat) (ha : a ≤ 18446744073709551615) (hb : b ≤ 18446744073709551615) (w : World) :
    Calls Try.prog 5 #[.int .i64 k, .int .u64 a, .int .u64 b] w fun e w' => e = .returned (.bool true) ∧ Below w.heap.size w w' := by
  have hwd := Lib.hid (fun w' => width_calls k w')
  by_cases hw : 0 < widthF k
  · have hla : laidAll [⟨k, a, 0, none, 0, []⟩] = wideL (cutN k a) (widthF k) := by rw [laidAll_one]; unfold laidL; rw [if_pos hw]
    have hlb : laidAll [⟨k, b, 0, none, 0, []⟩] = wideL (cutN k b) (widthF k) := by rw [laidAll_one]; unfold laidL; rw [if_pos hw]
    have hlt : ∀ v, v ≤ 18446744073709551615 → cutN k v < 256 ^ widthF k := by
      intro v hv
      unfold widthF at hw
      unfold cutN widthF
      by_cases h1 : k = 1
      · simp [h1]; omega
      · by_cases h2 : k = 2
        · simp [h2]; omega
        · by_cases h3 : k = 3
          · simp [h3]; omega
          · by_cases h4 : k = 4
            · simp [h4]; omega
            · simp [h1, h2, h3, h4] at hw
    have hord := order_wide (widthF k) (cutN k a) (cutN k b) (hlt a ha) (hlt b hb)
    have hx := WireMath.wideL_length (cutN k a) (widthF k)
    have hy := WireMath.wideL_length (cutN k b) (widthF k)
    have hct := Lib.hid (fun v (hv : v ≤ 18446744073709551615) w' => cut_calls k v 0 none 0 0 w' hv)
    have hca := cutN_le k a
    have hcb := cutN_le k b
    have HCa := Lib.hid (hct.out a ha)
    have HCb := Lib.hid (hct.out b hb)
    clear hct hlt
    generalize wideL (cutN k a) (widthF k) = x at *
    generalize wideL (cutN k b) (widthF k) = y at *
    have hw8 : widthF k ≤ 8 := by
      unfold widthF
      repeat' split
      all_goals decide
    generalize widthF k = n at *
    generalize cutN k a = ca at *
    generalize cutN k b = cb at *
    have HLa := Lib.hid (show n = (laidAll [⟨k, a, 0, none, 0, []⟩]).length by rw [hla, hx])
    have HLb := Lib.hid (show n = (laidAll [⟨k, b, 0, none, 0, []⟩]).length by rw [hlb, hy])
    have HEa := Lib.hid hla
    have HEb := Lib.hid hlb
    have HO := Lib.hid hord
    have HX := Lib.hid hx
    have HY := Lib.hid hy
    have hok : ∀ (v : Nat) (hv : v ≤ 18446744073709551615) (w' : World), OpOk w' ⟨k, v, 0, none, 0, []⟩ := fun v hv w' => ⟨hk, hv, (by show (-9223372036854775808 : Int) ≤ 0 ∧ (0 : Int) ≤ 9223372036854775807; decide), RB.void w'⟩
    have hn0 : ((n : Int) == 0) = false := by rw [beq_eq_false_iff_ne]; omega
    clear hla hlb hord hx hy
    go_enter Try.func5, Try.ntmps5
    go_wp2_with (first
      | (go_at_call 15; (with_reducible refine (awake_calls _).mono ?_); rintro e0 w0 ⟨rfl, hb0⟩)
      | (go_at_call 23; (with_reducible refine (hwd.out _).mono ?_); rintro e1 w1 ⟨rfl, rfl⟩)
      | (go_at_call 24; (with_reducible refine (written_calls (some ⟨w0.heap.size, 0, none⟩) [⟨k, a, 0, none, 0, []⟩] 1 1 n _ (Ops.oneV w0 k a (hok a ha w0) 32) rfl (by simp [bulkOps]) HLa.out).mono ?_); rintro e2 w2 ⟨A2, c2, rfl, hn2⟩; have HB2 := Lib.hid (below_then (belowA hb0 (.cells #[.int .i64 k, .int .u64 a, .int .i64 0, .slice none 0 0] 32)) hn2.below))
      | (go_at_call 24; (with_reducible refine (written_calls (some ⟨w2.heap.size, 0, none⟩) [⟨k, b, 0, none, 0, []⟩] 1 1 n _ (Ops.oneV w2 k b (hok b hb w2) 32) rfl (by simp [bulkOps]) HLb.out).mono ?_); rintro e3 w3 ⟨A3, c3, rfl, hn3⟩; have HB3 := Lib.hid (below_then (belowA HB2.out (.cells #[.int .i64 k, .int .u64 b, .int .i64 0, .slice none 0 0] 32)) hn3.below))
      | (go_at_call 25; (with_reducible refine (HCa.out _).mono ?_); rintro e4 w4 ⟨rfl, hb4⟩)
      | (go_at_call 25; (with_reducible refine (HCb.out _).mono ?_); rintro e5 w5 ⟨rfl, hb5⟩))
    have N3 := below_then (below_alloc1 (Below.refl w2.heap.size w2) (Nat.le_refl _) (.cells #[.int .i64 k, .int .u64 b, .int .i64 0, .slice none 0 0] 32)) hn3.below
    have B5 := below_then (below_then HB3.out hb4) hb5
    rw [HEa.out] at hn2
    rw [HEb.out] at hn3
    have rx := ((hn2.own.rb.new N3).new hb4).new hb5
    have ry := (hn3.own.rb.new hb4).new hb5
    have HRX := Lib.hid rx
    have HRY := Lib.hid ry
    clear N3 rx ry hn2 hn3 HEa HEb HLa HLb hok HCa HCb
    go_loopw [10, 47] (fun _ iv wr => ∃ i : Nat, i ≤ n ∧ iv = .int .i64 i ∧ Drawn w5 wr ∧ Hid (x.take i = y.take i)) (fun _ i _ => n - (intOf i).toNat)
    case atStart => exact ⟨0, Nat.zero_le _, rfl, Drawn.refl _, Lib.hid (by simp)⟩
    case round =>
      obtain ⟨i, hi, rfl, hd, HT⟩ := hrel
      have hxl := HX.out
      have hyl := HY.out
      by_cases hlt : i < n
      · obtain ⟨pa, rfl, ca0⟩ := (HRX.out.new (hd.below _)).at_ i (by omega)
        obtain ⟨pb, rfl, cb0⟩ := (HRY.out.new (hd.below _)).at_ i (by omega)
        have hf := HO.out.first i (by omega) HT.out
        have hbx := uB_range (x[i]'(by omega))
        have hby := uB_range (y[i]'(by omega))
        have hs : uB (x[i]'(by omega)) = uB (y[i]'(by omega)) → x.take (i + 1) = y.take (i + 1) := by
          intro e
          have e2 : (x[i]'(by omega)) = (y[i]'(by omega)) := by
            unfold uB at e
            exact UInt8.toNat_inj.1 (by omega)
          rw [List.take_succ_eq_append_getElem (by omega : i < x.length), List.take_succ_eq_append_getElem (by omega : i < y.length), HT.out, e2]
        generalize uB (x[i]'(by omega)) = u at *
        generalize uB (y[i]'(by omega)) = v at *
        clear hxl hyl
        by_cases hne : u = v
        · have HS := Lib.hid (hs hne)
          have hb1 : (u != v) = false := by rw [bne_eq_false_iff_eq]; exact hne
          clear hs hf hne
          go_wp2
          go_quiet (fail)
          go_wp2
          go_roundw
          case rel => exact ⟨i + 1, by omega, by go_num, hd.step _, HS.out⟩
          case measure => simp [intOf]; omega
        · have hb1 : (u != v) = true := by rw [bne_iff_ne]; exact hne
          have HF := Lib.hid (hf hne)
          clear hs hf hne
          go_wp2
          go_quiet (fail)
          go_wp2
          go_quiet (fail)
          go_wp2
          go_ret
          exact ⟨ret_bool (by rw [HF.out]; simp), B5.trans (((hd.step _).step _).below _)⟩
      · obtain rfl : i = n := by omega
        have hab : ca = cb := HO.out.all (by have := HT.out; rwa [List.take_of_length_le (by omega), List.take_of_length_le (by omega)] at this)
        have hbb : ((ca : Int) == (cb : Int)) = true := by rw [hab]; simp
        clear hab hxl hyl hlt
        go_wp2
        go_ret
        exact ⟨rfl, B5.trans (hd.below _)⟩
  · have hw0 : widthF k = 0 := by omega
    have hwd0 := Lib.hid (fun w' => widthN k 0 (by rw [hw0]; rfl) w')
    clear hw hw0 hwd
    go_enter Try.func5, Try.ntmps5
    go_wp2_with (first
      | (go_at_call 15; (with_reducible refine (awake_calls _).mono ?_); rintro e0 w0 ⟨rfl, hb0⟩)
      | (go_at_call 23; (with_reducible refine (hwd0.out _).mono ?_); rintro e1 w1 ⟨rfl, rfl⟩))
    go_ret
    exact ⟨rfl, hb0⟩
theorem wireOrder_row (k : Int) (hk : -9223372036854775808 ≤ k ∧ k ≤ 9223372036854775807) (a : Int) (ha : 0 ≤ a ∧ a ≤ 18446744073709551615) (b : Int) (hb : 0 ≤ b ∧ b ≤ 18446744073709551615) (w : World) :
    Calls Try.prog 5 #[.int .i64 k, .int .u64 a, .int .u64 b] w fun e w' => e = .returned (.bool true) ∧ Below w.heap.size w w' := by
  obtain ⟨x, rfl⟩ := Int.eq_ofNat_of_zero_le ha.1
  obtain ⟨y, rfl⟩ := Int.eq_ofNat_of_zero_le hb.1
  exact wireOrder_calls k hk x y (by omega) (by omega) w
end Go.Proofs.Ytdpmalegpjimfaa
