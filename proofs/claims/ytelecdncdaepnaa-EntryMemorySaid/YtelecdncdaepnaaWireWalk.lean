/- The walks of the writer's methods: each call lays what WireMath says behind all that stands. -/
import Derived.Test.YtelecdncdaepnaaWireWords
import Derived.Laws.BitsLemmas
namespace Go.Proofs.Ytelecdncdaepnaa
open Go.RowKit

theorem OB.empty (w : World) (base e : Nat) (hb : base ≤ w.heap.size) : OB (w.alloc (.cells #[] e)) base e (.slice (some ⟨w.heap.size, 0, none⟩) 0 0) [] :=
  ⟨by simp [encB], .inr ⟨w.heap.size, 0, #[], rfl, hb, heap_alloc_new w _, Nat.le_refl _, by unfold maxLen; omega, rfl, by simp [encB]⟩⟩

theorem eql_nil (w : World) (a : Option Addr) (l c : Nat) : (binOp .eql 24 (.slice a l c) (.slice none 0 0)).run Try.prog w = .ok (.bool a.isNone) w := Lib.run_eql_slice_nil w 24 5 a l c 0 0 Try.underlying24

theorem clone_calls (A : Option Addr) (p : List UInt8) (cap n : Nat) (w : World) (hp : RB w A cap p) (hn : n = p.length) (hl : p.length ≤ 140737488355328) :
    Calls Try.prog 91 #[.slice A n cap] w fun e w' => ∃ A' c', e = .returned (.slice A' n c') ∧ NewB w w' (.slice A' n c') p := by
  subst hn
  have hnil := eql_nil
  cases A with
  | none =>
    obtain ⟨rfl, rfl⟩ := hp.nil rfl
    go_enter Try.func91, Try.ntmps91
    go_wp2
    go_ret
    exact ⟨_, _, rfl, OB.nil _ _ _, Below.refl _ _⟩
  | some a =>
    go_enter Try.func91, Try.ntmps91
    go_wp2_with (refine wp_appendB_at bt rfl (.tmp 5) (.tmp 6) rfl w.heap.size (.slice (some ⟨w.heap.size, 0, Option.none⟩) 0 0) [] rfl (OB.empty w w.heap.size 5 (Nat.le_refl _)) (some a) p p.length cap rfl rfl (hp.new ((Below.refl _ _).alloc (Nat.le_refl _) _)) (by simpa using hl) (by simp) p rfl fun A3 c3 w2 ho2 hg2 _ => ?_)
    go_ret
    exact ⟨_, _, rfl, ho2, ((Below.refl _ _).alloc (Nat.le_refl _) _).grown hg2 (by simp) (fun k e => by have e2 : some w.heap.size = some k := e; have := Option.some.inj e2; omega)⟩

theorem add_calls (base b : Nat) (row : Option Nat) (p : List UInt8) (A : Option Addr) (q : List UInt8) (n c : Nat) (w : World) (hw : Wr w base b row p) (hq : RB w A c q) (hn : n = q.length) (hl : p.length + q.length ≤ 140737488355328) :
    Calls Try.prog 88 #[.pointer (some ⟨b, 0, none⟩), .slice A n c] w fun e w' => ∃ row', e = .returned (.tuple #[]) ∧ Wr w' base b row' (p ++ q) ∧ WStep w w' b row row' := by
  obtain ⟨A0, c0, hc, hr, ho, hrb⟩ := hw.open_
  have hlo := hw.lo
  have hbl := hw.bLt
  have hf := hw.fz
  go_enter Try.func88, Try.ntmps88
  go_wp2_with (refine wp_appendB_at bt rfl (.tmp 10) (.tmp 11) rfl base (.slice A0 p.length c0) p rfl ho A q n c rfl hn hq hl (by omega) (p ++ q) rfl fun A3 c3 w2 ho2 hg2 hr2 => ?_; have hb2 := hg2.block b hbl (by rw [hr]; intro e; exact hw.ne e.symm); have hc2 := (World.cell?_of_block (a := ⟨b, 0, Option.none⟩) hb2).trans hc; have hf2 := (World.frozen?_of_block (a := ⟨b, 0, Option.none⟩) hb2).trans hf)
  have hrow : (Value.slice A3 (p ++ q).length c3).ownBlock = row ∨ ∃ k, (Value.slice A3 (p ++ q).length c3).ownBlock = some k ∧ w.heap.size ≤ k := by
    rcases hr2 with e | e
    · exact .inl (e.trans hr)
    · exact .inr ⟨_, e, Nat.le_refl _⟩
  rw [hr] at hg2
  obtain ⟨h1, h2⟩ := hw.put (row' := (Value.slice A3 (p ++ q).length c3).ownBlock) ⟨hg2.os, hg2.tape, hg2.output, hg2.size, fun k k1 _ k3 => hg2.block k k1 k3, .inl rfl⟩ rfl hrow hb2 ho2
  rw [List.length_append] at h1 h2
  go_end0
  exact ⟨_, rfl, h1, h2⟩

open WireMath (byteAt wideL uvarF uvarL grp lst)
theorem byteAt_eq (v i : Nat) : (v : Int) / 2 ^ (8 * i) % 256 = uB (byteAt v i) := by
  unfold byteAt
  rw [uB_ofNat]; simp
theorem one_byte (w : World) (b : UInt8) : RB (w.alloc (.cells #[.int .u8 (uB b)] 5)) (some ⟨w.heap.size, 0, none⟩) 1 [b] := RB.one w _ b

theorem wide_calls (base b : Nat) (row : Option Nat) (p : List UInt8) (v n : Nat) (N : Int) (w : World) (hw : Wr w base b row p) (_hv : v ≤ 18446744073709551615) (hn : n ≤ 8) (hN : N = n) (hl : p.length + 8 ≤ 140737488355328) :
    Calls Try.prog 102 #[.pointer (some ⟨b, 0, none⟩), .int .u64 v, .int .i64 N] w fun e w' => ∃ row', e = .returned (.tuple #[]) ∧ Wr w' base b row' (p ++ wideL v n) ∧ WStep w w' b row row' := by
  subst hN
  go_enter Try.func102, Try.ntmps102
  go_wp2
  go_loopw [6] (fun i wr => ∃ (j : Nat) (pre : List UInt8) (r : Option Nat), j ≤ n ∧ i = .int .i64 ((j : Int) - 1) ∧ Hid (pre ++ wideL v j = wideL v n) ∧ Wr wr base b r (p ++ pre) ∧ WStep w wr b row r) (fun i _ => (intOf i + 1).toNat)
  case atStart => exact ⟨n, [], row, Nat.le_refl _, rfl, Lib.hid rfl, by simpa using hw, WStep.refl _ _ _⟩
  case round =>
    obtain ⟨j, pre, r, hj, rfl, HP, HW, HS⟩ := hrel
    cases j with
    | zero =>
      go_wp2
      go_end0
      have := HP.out
      simp only [wideL, List.append_nil] at this
      exact ⟨r, rfl, by rw [← this]; exact HW, HS⟩
    | succ i =>
      have hb := byteAt_eq v i
      have ht : (8 * (i : Int)).toNat = 8 * i := by omega
      have hll : (p ++ pre).length + [byteAt v i].length ≤ 140737488355328 := by
        have h1 := congrArg List.length HP.out
        simp only [List.length_append, WireMath.wideL_length, List.length_cons, List.length_nil] at h1 ⊢
        omega
      have HLL := Lib.hid hll
      clear hll
      go_wp2_with (go_at_call 88; (with_reducible refine (add_calls base b r (p ++ pre) _ [byteAt v i] _ _ _ (HW.new ((Below.refl _ _).alloc (Nat.le_refl _) _)) (one_byte wr _) (by simp) HLL.out).mono ?_); rintro e w2 ⟨r2, rfl, hw2, hs2⟩)
      go_roundw
      case rel => exact ⟨i, pre ++ [byteAt v i], r2, by omega, (by first | rfl | go_num), Lib.hid (by rw [← HP.out]; simp [wideL]), by rw [← List.append_assoc]; exact hw2, HS.trans (WStep.ahead ((Below.refl _ _).alloc (Nat.le_refl _) _) hs2)⟩
      case measure => simp [intOf] <;> omega

theorem u8_calls (base b : Nat) (row : Option Nat) (p : List UInt8) (v : Nat) (w : World) (hw : Wr w base b row p) (hv : v ≤ 255) (hl : p.length + 8 ≤ 140737488355328) :
    Calls Try.prog 89 #[.pointer (some ⟨b, 0, none⟩), .int .u8 v] w fun e w' => ∃ row', e = .returned (.tuple #[]) ∧ Wr w' base b row' (p ++ [UInt8.ofNat v]) ∧ WStep w w' b row row' := by
  have hx : (v : Int) = uB (UInt8.ofNat v) := by rw [uB_ofNat]; omega
  have HX := Lib.hid hx
  clear hx
  go_enter Try.func89, Try.ntmps89
  go_wp2_with (go_at_call 88; rw [HX.out]; (with_reducible refine (add_calls base b row p _ [UInt8.ofNat v] _ _ _ (hw.new ((Below.refl _ _).alloc (Nat.le_refl _) _)) (one_byte w _) (by simp) (by simp; omega)).mono ?_); rintro e w2 ⟨r2, rfl, hw2, hs2⟩)
  go_end0
  exact ⟨r2, rfl, hw2, WStep.ahead ((Below.refl _ _).alloc (Nat.le_refl _) _) hs2⟩

theorem u64_calls (base b : Nat) (row : Option Nat) (p : List UInt8) (v : Nat) (w : World) (hw : Wr w base b row p) (hv : v ≤ 18446744073709551615) (hl : p.length + 8 ≤ 140737488355328) :
    Calls Try.prog 78 #[.pointer (some ⟨b, 0, none⟩), .int .u64 v] w fun e w' => ∃ row', e = .returned (.tuple #[]) ∧ Wr w' base b row' (p ++ wideL v 8) ∧ WStep w w' b row row' := by
  have HN := Lib.hid (show (8 : Int) = ((8 : Nat) : Int) from rfl)
  go_enter Try.func78, Try.ntmps78
  go_wp2_with (go_at_call 102; (with_reducible refine (wide_calls base b row p v 8 _ _ hw (by omega) (by omega) HN.out hl).mono ?_); rintro e w2 ⟨r2, rfl, hw2, hs2⟩)
  go_end0
  exact ⟨r2, rfl, hw2, hs2⟩

theorem raw_calls (base b : Nat) (row : Option Nat) (p : List UInt8) (A : Option Addr) (q : List UInt8) (n c : Nat) (w : World) (hw : Wr w base b row p) (hq : RB w A c q) (hn : n = q.length) (hl : p.length + q.length ≤ 140737488355328) :
    Calls Try.prog 79 #[.pointer (some ⟨b, 0, none⟩), .slice A n c] w fun e w' => ∃ row', e = .returned (.tuple #[]) ∧ Wr w' base b row' (p ++ q) ∧ WStep w w' b row row' := by
  subst hn
  go_enter Try.func79, Try.ntmps79
  go_wp2_with (go_at_call 88; (with_reducible refine (add_calls base b row p A q _ c _ hw hq rfl hl).mono ?_); rintro e w2 ⟨r2, rfl, hw2, hs2⟩)
  go_end0
  exact ⟨r2, rfl, hw2, hs2⟩

theorem bytes_calls (base b : Nat) (row : Option Nat) (p : List UInt8) (w : World) (hw : Wr w base b row p) (hl : p.length ≤ 140737488355328) :
    Calls Try.prog 50 #[.pointer (some ⟨b, 0, none⟩)] w fun e w' => ∃ A' c', e = .returned (.slice A' p.length c') ∧ NewB w w' (.slice A' p.length c') p := by
  obtain ⟨A0, c0, hc, hr, ho, hrb⟩ := hw.open_
  have hf := hw.fz
  go_enter Try.func50, Try.ntmps50
  go_wp2_with (go_at_call 91; (with_reducible refine (clone_calls A0 p c0 _ _ hrb rfl hl).mono ?_); rintro e w2 ⟨A', c', rfl, hn⟩)
  go_ret
  exact ⟨_, _, rfl, hn⟩

theorem or_128 : ∀ y, y < 256 → y ||| 128 = y % 128 + 128 := by decide +kernel
theorem bits_or_128 (x : Nat) : bits .or .u8 ((x : Int) % 256) 128 = uB (grp x) := by
  have h := (bits_nat .u8 8 (by decide) wraps_u8 (x % 256) 128 (by omega) (by decide)).2
  rw [or_128 _ (by omega)] at h
  unfold WireMath.grp
  rw [uB_ofNat]
  have e : ((x % 256 : Nat) : Int) = (x : Int) % 256 := by omega
  rw [e] at h
  rw [show ((128 : Nat) : Int) = 128 from rfl] at h
  rw [h]
  omega
set_option maxRecDepth 100000 in
/-- one group and those behind it -/
theorem uvar_calls (base b : Nat) (row : Option Nat) (p : List UInt8) (v : Nat) (w : World) (hw : Wr w base b row p) (hv : v ≤ 18446744073709551615) (hl : p.length + 10 ≤ 140737488355328) :
    Calls Try.prog 48 #[.pointer (some ⟨b, 0, none⟩), .int .u64 v] w fun e w' => ∃ row', e = .returned (.tuple #[]) ∧ Wr w' base b row' (p ++ uvarL v) ∧ WStep w w' b row row' := by
  go_enter Try.func48, Try.ntmps48
  go_wp2
  go_loopw [1] (fun i wr => ∃ (x f : Nat) (pre : List UInt8) (r : Option Nat), x ≤ v ∧ Hid (x < 128 ^ (f + 1)) ∧ f ≤ 9 ∧ i = .int .u64 x ∧ Hid (pre ++ uvarF f x = uvarL v) ∧ Wr wr base b r (p ++ pre) ∧ WStep w wr b row r) (fun i _ => (intOf i).toNat)
  case atStart => exact ⟨v, 9, [], row, Nat.le_refl _, Lib.hid (by simp; omega), by omega, rfl, Lib.hid rfl, by simpa using hw, WStep.refl _ _ _⟩
  case round =>
    obtain ⟨x, f, pre, r, hx, hxf, hf9, rfl, HP, HW, HS⟩ := hrel
    have hll : (p ++ pre).length + 1 ≤ 140737488355328 := by
      have h1 := congrArg List.length HP.out
      have h2 := WireMath.uvarL_length v
      have h3 := WireMath.uvarF_pos f x
      simp only [List.length_append] at h1 ⊢
      omega
    by_cases hlt : x < 128
    · have hone : uvarF f x = [lst x] := by cases f <;> simp [uvarF, hlt]
      have hb : (x : Int) = uB (lst x) := by unfold WireMath.lst; rw [uB_ofNat]; omega
      have HX := Lib.hid hb
      clear hb
      have hll2 : (p ++ pre).length + [lst x].length ≤ 140737488355328 := by simpa using hll
      have HLL := Lib.hid hll2
      have HO := Lib.hid hone
      clear hll hll2 hone
      go_wp2_with (go_at_call 88; rw [HX.out]; (with_reducible refine (add_calls base b r (p ++ pre) _ [lst x] _ _ _ (HW.new ((Below.refl _ _).alloc (Nat.le_refl _) _)) (one_byte wr _) (by simp) HLL.out).mono ?_); rintro e w2 ⟨r2, rfl, hw2, hs2⟩)
      go_end0
      refine ⟨r2, rfl, ?_, HS.trans (WStep.ahead ((Below.refl _ _).alloc (Nat.le_refl _) _) hs2)⟩
      rw [← HP.out, HO.out, ← List.append_assoc]
      exact hw2
    · cases f with
      | zero => have := hxf.out; simp at this; omega
      | succ f =>
        have hmore : uvarF (f + 1) x = grp x :: uvarF f (x / 128) := by simp [uvarF, hlt]
        have hb := bits_or_128 x
        have hll2 : (p ++ pre).length + [grp x].length ≤ 140737488355328 := by simpa using hll
        have HLL := Lib.hid hll2
        have HO := Lib.hid hmore
        clear hll hll2 hmore
        go_wp2_with (go_at_call 88; (with_reducible refine (add_calls base b r (p ++ pre) _ [grp x] _ _ _ (HW.new ((Below.refl _ _).alloc (Nat.le_refl _) _)) (one_byte wr _) (by simp) HLL.out).mono ?_); rintro e w2 ⟨r2, rfl, hw2, hs2⟩)
        go_roundw
        case rel => exact ⟨x / 128, f, pre ++ [grp x], r2, by omega, Lib.hid (by have := hxf.out; rw [Nat.pow_succ] at this; omega), by omega, (by first | rfl | go_num), Lib.hid (by rw [← HP.out, HO.out]; simp), by rw [← List.append_assoc]; exact hw2, HS.trans (WStep.ahead ((Below.refl _ _).alloc (Nat.le_refl _) _) hs2)⟩
        case measure => simp [intOf] <;> omega

theorem blob_calls (base b : Nat) (row : Option Nat) (p : List UInt8) (A : Option Addr) (q : List UInt8) (n c : Nat) (w : World) (hw : Wr w base b row p) (hq : RB w A c q) (hqo : Old base A q) (hn : n = q.length) (hl : p.length + q.length + 10 ≤ 140737488355328) :
    Calls Try.prog 90 #[.pointer (some ⟨b, 0, none⟩), .slice A n c] w fun e w' => ∃ row', e = .returned (.tuple #[]) ∧ Wr w' base b row' (p ++ (uvarL q.length ++ q)) ∧ WStep w w' b row row' := by
  subst hn
  have hul := WireMath.uvarL_length q.length
  go_enter Try.func90, Try.ntmps90
  go_wp2_with (first | (go_at_call 48; (with_reducible refine (uvar_calls base b row p q.length _ hw (by omega) (by omega)).mono ?_); rintro e w2 ⟨r2, rfl, hw2, hs2⟩; have hq2 := hq.below (hs2.below hw) hqo) | (go_at_call 79; (with_reducible refine (raw_calls base b r2 (p ++ uvarL q.length) A q _ c _ hw2 hq2 rfl (by rw [List.length_append]; omega)).mono ?_); rintro e w3 ⟨r3, rfl, hw3, hs3⟩))
  go_end0
  exact ⟨r3, rfl, by rw [← List.append_assoc]; exact hw3, hs2.trans hs3⟩
end Go.Proofs.Ytelecdncdaepnaa
