import Derived.Test.YtlcbjjgmkllceaaQAppendTwo
import Derived.Test.YtlcbjjgmkllceaaQBb
/- The statements' marks on lists: mark, grow, marked. -/
namespace Go.Proofs.Ytlcbjjgmkllceaa
open Go.RowKit

/-- the mark, as a number before it is a byte; as a byte -/
def mkI (r i j : Int) : Int :=
  if r = 0 then wrap64 (wrap64 (wrap64 (101 * i) + wrap64 (59 * j)) + 17)
  else wrap64 (wrap64 (wrap64 (wrap64 (wrap64 (wrap64 (i + 1) * wrap64 (j + 3)) * 29) + wrap64 (i * 7)) + wrap64 (j.tdiv 5)) + 3)
def mk (r i j : Int) : UInt8 := UInt8.ofNat (mkI r i j % 256).toNat
theorem mk_eq (r i j : Int) : uB (mk r i j) = mkI r i j % 256 := by
  unfold mk; rw [uB_ofNat]; omega
theorem mark_calls (r i j : Int) (w : World) :
    Calls Try.prog 23 #[.int .i64 r, .int .i64 i, .int .i64 j] w fun e w' => e = .returned (.int .u8 (uB (mk r i j))) ∧ w = w' := by
  rw [mk_eq]
  by_cases h : r = 0
  · subst h
    have hm : mkI 0 i j = wrap64 (wrap64 (wrap64 (101 * i) + wrap64 (59 * j)) + 17) := by unfold mkI; rw [if_pos rfl]
    rw [hm]
    clear hm
    go_enter Try.func23, Try.ntmps23
    go_wp2
    go_ret
    exact ⟨rfl, rfl⟩
  · have hb : (r == 0) = false := by rw [beq_eq_false_iff_ne]; exact h
    have hm : mkI r i j = wrap64 (wrap64 (wrap64 (wrap64 (wrap64 (wrap64 (i + 1) * wrap64 (j + 3)) * 29) + wrap64 (i * 7)) + wrap64 (j.tdiv 5)) + 3) := by unfold mkI; rw [if_neg h]
    rw [hm]
    clear hm h
    go_enter Try.func23, Try.ntmps23
    go_wp2
    go_ret
    exact ⟨rfl, rfl⟩
/-- k marks from the place s on -/
def mkL (r i : Int) (s k : Nat) : List UInt8 := (List.range k).map fun t => mk r i ((s + t : Nat) : Int)
theorem mkL_length (r i : Int) (s k : Nat) : (mkL r i s k).length = k := by simp [mkL]
theorem mkL_succ (r i : Int) (s k : Nat) : mkL r i s (k + 1) = mkL r i s k ++ [mk r i ((s + k : Nat) : Int)] := by simp [mkL, List.range_succ]
theorem mkL_add (r i : Int) (n k : Nat) : mkL r i 0 n ++ mkL r i n k = mkL r i 0 (n + k) := by
  induction k with
  | zero => simp [mkL]
  | succ k ih => rw [mkL_succ, ← List.append_assoc, ih, ← Nat.add_assoc, mkL_succ, Nat.zero_add]
theorem mkL_get (r i : Int) (n j : Nat) (h : j < n) : (mkL r i 0 n)[j]? = some (mk r i (j : Int)) := by simp [mkL, h]

theorem grown_far {w w1 w2 : World} {row : Option Nat} {k : Nat} (h : w.grownBy w1 row) (h2 : w1.grownBy w2 (some k)) (hk : w.heap.size ≤ k) : w.grownBy w2 row :=
  ⟨h2.os.trans h.os, h2.tape.trans h.tape, h2.output.trans h.output, Nat.le_trans h.size h2.size, fun j h3 h4 => (h2.block j (Nat.lt_of_lt_of_le h3 h.size) (fun e => by have := Option.some.inj e; omega)).trans (h.block j h3 h4)⟩
/-- what stood ahead of what was appended in place -/
theorem OB.ahead {w w' : World} {base e n c m : Nat} {A : Option Addr} {p q : List UInt8} (h : OB w base e (.slice A n c) p) (h' : OB w' base e (.slice A m c) (p ++ q)) : OB w' base e (.slice A n c) p := by
  have hn := h.len
  rcases h'.out.2 with ⟨h0, h1⟩ | ⟨g, cap, cur, hv, _⟩
  · injection h0 with e1 e2 e3
    subst e1; subst e3
    have hp : p = [] := by
      have := List.eq_nil_of_length_eq_zero h1
      exact (List.append_eq_nil_iff.1 this).1
    subst hp
    simp at hn
    subst hn
    exact OB.nil _ _ _
  · injection hv with e1 e2 e3
    subst e1; subst e2; subst e3
    exact OB.pre h' hn
/-- a list that was grown: its old bytes, and whether it lies where it lay -/
structure Grew (w w' : World) (base : Nat) (A A' : Option Addr) (n m c c' : Nat) (p r : List UInt8) : Prop where
  own : OB w' base 5 (.slice A' m c') r
  old : OB w' base 5 (.slice A n c) p
  at_ : (A' = A ∧ c' = c) ∨ ∃ k, (Value.slice A' m c').ownBlock = some k ∧ w.heap.size ≤ k
  grown : w.grownBy w' (Value.slice A n c).ownBlock
theorem Grew.more {w w1 w2 : World} {base : Nat} {A A1 A2 : Option Addr} {n m m2 c c1 c2 : Nat} {p x r : List UInt8} (h : Grew w w1 base A A1 n m c c1 p (p ++ x)) (hp : OB w base 5 (.slice A n c) p)
    (ho : OB w2 base 5 (.slice A2 m2 c2) (p ++ r)) (h2 : (A2 = A1 ∧ c2 = c1 ∧ w1.grownBy w2 (Value.slice A1 m c1).ownBlock) ∨ ((Value.slice A2 m2 c2).ownBlock = some w1.heap.size ∧ Below w1.heap.size w1 w2)) : Grew w w2 base A A2 n m2 c c2 p (p ++ r) := by
  have hlt := hp.at_base
  rcases h2 with ⟨rfl, rfl, hg⟩ | ⟨hb, hbel⟩
  · rcases h.at_ with ⟨rfl, rfl⟩ | ⟨k, hk, hks⟩
    · refine ⟨ho, h.old.ahead ho, .inl ⟨rfl, rfl⟩, ?_⟩
      have e : ∀ a b, (Value.slice A2 a c2).ownBlock = (Value.slice A2 b c2).ownBlock := fun a b => by cases A2 <;> rfl
      rw [e m n] at hg
      exact grown_trans h.grown hg
    · have e : (Value.slice A2 m2 c2).ownBlock = (Value.slice A2 m c2).ownBlock := by cases A2 <;> rfl
      rw [hk] at hg
      refine ⟨ho, h.old.keep hg ?_, .inr ⟨k, e.trans hk, hks⟩, grown_far h.grown hg hks⟩
      by_cases hn : (Value.slice A n c).ownBlock = none
      · exact .inl hn
      · refine .inr fun e2 => ?_
        have := (hlt k e2).2
        omega
  · exact ⟨ho, h.old.new hbel, .inr ⟨_, hb, h.grown.size⟩, grown_new h.grown hbel⟩

set_option maxHeartbeats 400000 in
set_option maxRecDepth 100000 in
theorem grow1_calls (base : Nat) (A : Option Addr) (n c : Nat) (p : List UInt8) (r i : Int) (w : World) (hp : OB w base 5 (.slice A n c) p) (hb : base ≤ w.heap.size) (hl : p.length + 24 ≤ 140737488355328) :
    Calls Try.prog 24 #[.slice A n c, .int .i64 r, .int .i64 i, .int .i64 1] w fun e w' => ∃ A' c', e = .returned (.slice A' (n + 24) c') ∧ Grew w w' base A A' n (n + 24) c c' p (p ++ mkL r i n 24) := by
  have hnl : n + 24 ≤ 140737488355328 := by have := hp.len; omega
  have HN := Lib.hid hp.len
  have HP := Lib.hid hp
  go_enter Try.func24, Try.ntmps24
  go_wp2
  go_loopw [9, 10] (fun g j wr => ∃ (t : Nat) (A1 : Option Addr) (c1 : Nat), t ≤ 24 ∧ j = .int .i64 t ∧ g = .slice A1 (n + t) c1 ∧ Grew w wr base A A1 n (n + t) c c1 p (p ++ mkL r i n t)) (fun _ j _ => 24 - (intOf j).toNat)
  case atStart => exact ⟨0, A, c, by omega, rfl, rfl, by simpa [mkL] using hp, hp, .inl ⟨rfl, rfl⟩, grown_refl _ _⟩
  case round =>
    obtain ⟨t, A1, c1, ht, rfl, rfl, HG⟩ := hrel
    have hbw := HG.grown.size
    by_cases hlt : t < 24
    · have HE := Lib.hid (mkL_succ r i n t)
      have hrow := Lib.hid (show (n : Int) + t = ((n + t : Nat) : Int) from rfl)
      go_wp2_with (first
        | (go_at_call 23; (with_reducible refine (mark_calls r i _ _).mono ?_); rintro e1 w1 ⟨rfl, rfl⟩)
        | (refine wp_appendB_two bt rfl (.tmp 20) (.tmp 28) rfl base A1 (n + t) c1 (p ++ mkL r i n t) rfl (by rw [List.length_append, mkL_length, ← HN.out]) (HG.own.alloc _) _ [mk r i ((n : Int) + t)] 1 1 rfl rfl (one_byte wr _) (by rw [List.length_append, mkL_length, ← HN.out]; show n + t + 1 ≤ _; omega) (by rw [asz]; omega) (p ++ mkL r i n (t + 1)) (by rw [HE.out, ← List.append_assoc, ← hrow.out]) fun A3 c3 w3 ho3 h3 => ?_))
      go_roundw
      case rel =>
        have hln : (p ++ mkL r i n (t + 1)).length = n + (t + 1) := by rw [List.length_append, mkL_length, ← HN.out]
        rw [hln] at ho3 h3
        have HG' : Grew w (wr.alloc (.cells #[.int .u8 (uB (mk r i ((n : Int) + t)))] 5)) base A A1 n (n + t) c c1 p (p ++ mkL r i n t) := ⟨HG.own.alloc _, HG.old.alloc _, HG.at_, grown_new HG.grown (below_alloc1 (Below.refl _ _) (Nat.le_refl _) _)⟩
        exact ⟨t + 1, A3, c3, by omega, by go_num, by rw [← List.length_append, hln], HG'.more HP.out ho3 h3⟩
      case measure => simp [intOf]; omega
    · obtain rfl : t = 24 := by omega
      go_wp2
      go_ret
      exact ⟨A1, c1, rfl, HG⟩
set_option maxHeartbeats 400000 in
set_option maxRecDepth 100000 in
theorem grow2_calls (base : Nat) (A : Option Addr) (n c : Nat) (p : List UInt8) (r i : Int) (S : Nat) (hS : S = 24 ∨ S = 90) (w : World) (hp : OB w base 5 (.slice A n c) p) (hb : base ≤ w.heap.size) (hl : p.length + 90 ≤ 140737488355328) :
    Calls Try.prog 24 #[.slice A n c, .int .i64 r, .int .i64 i, .int .i64 S] w fun e w' => ∃ A' c', e = .returned (.slice A' (n + S) c') ∧ Grew w w' base A A' n (n + S) c c' p (p ++ mkL r i n S) := by
  have hnl : n + 90 ≤ 140737488355328 := by have := hp.len; omega
  have HN := Lib.hid hp.len
  have HP := Lib.hid hp
  have hS1 : ((S : Int) == 1) = false := by rw [beq_eq_false_iff_ne]; omega
  have hS9 : S ≤ 90 := by omega
  clear hS
  go_enter Try.func24, Try.ntmps24
  go_wp2
  go_loopw [11, 12] (fun g j wr => ∃ (t : Nat) (A1 : Option Addr) (c1 : Nat), t ≤ S ∧ j = .int .i64 t ∧ g = .slice A1 t c1 ∧ OB wr w.heap.size 5 (.slice A1 t c1) (mkL r i n t) ∧ Below w.heap.size w wr) (fun _ j _ => S - (intOf j).toNat)
  case atStart => exact ⟨0, Option.none, 0, by omega, rfl, rfl, OB.nil _ _ _, Below.refl _ _⟩
  case round =>
    obtain ⟨t, A1, c1, ht, rfl, rfl, HO, HB⟩ := hrel
    have hbw := HB.size
    by_cases hlt : t < S
    · have HE := Lib.hid (mkL_succ r i n t)
      have hrow := Lib.hid (show (n : Int) + t = ((n + t : Nat) : Int) from rfl)
      go_wp2_with (first
        | (go_at_call 23; (with_reducible refine (mark_calls r i _ _).mono ?_); rintro e1 w1 ⟨rfl, rfl⟩)
        | (refine wp_appendB_two bt rfl (.tmp 36) (.tmp 44) rfl w.heap.size A1 t c1 (mkL r i n t) rfl (by rw [mkL_length]) (HO.alloc _) _ [mk r i ((n : Int) + t)] 1 1 rfl rfl (one_byte wr _) (by rw [mkL_length]; show t + 1 ≤ _; omega) (by rw [asz]; omega) (mkL r i n (t + 1)) (by rw [HE.out, ← hrow.out]) fun A3 c3 w3 ho3 h3 => ?_))
      go_roundw
      case rel =>
        have hln : (mkL r i n (t + 1)).length = t + 1 := mkL_length _ _ _ _
        rw [hln] at ho3 h3
        have HB' := belowA HB (.cells #[.int .u8 (uB (mk r i ((n : Int) + t)))] 5)
        refine ⟨t + 1, A3, c3, by omega, by go_num, by rw [hln], ho3, ?_⟩
        rcases h3 with ⟨_, _, hg⟩ | ⟨_, hbel⟩
        · exact HB'.grown hg HB'.size (fun k hk => (HO.at_base k hk).1)
        · exact below_then HB' hbel
      case measure => simp [intOf]; omega
    · obtain rfl : t = S := by omega
      have HOP := Lib.hid (hp.new HB)
      go_wp2_with (refine wp_appendB_two bt rfl (.tmp 46) (.tmp 47) rfl base A n c p rfl HN.out HOP.out A1 (mkL r i n t) t c1 rfl (by rw [mkL_length]) HO.reads (by rw [mkL_length, ← HN.out]; omega) (by omega) (p ++ mkL r i n t) rfl fun A3 c3 w3 ho3 h3 => ?_)
      go_ret
      have hln : (p ++ mkL r i n t).length = n + t := by rw [List.length_append, mkL_length, ← HN.out]
      rw [hln] at ho3 h3
      have HG0 : Grew w wr base A A n n c c p (p ++ []) := ⟨by rw [List.append_nil]; exact HOP.out, HOP.out, .inl ⟨rfl, rfl⟩, grown_of_below HB _⟩
      exact ⟨A3, c3, by rw [← hln, List.length_append]; rfl, HG0.more HP.out ho3 h3⟩
theorem mark_quiet (r i j : Int) (w : World) :
    Calls Try.prog 23 #[.int .i64 r, .int .i64 i, .int .i64 j] w fun e w' => e = .returned (.int .u8 (uB (mk r i j))) ∧ w' = w := (mark_calls r i j w).mono fun _ _ ⟨h1, h2⟩ => ⟨h1, h2.symm⟩
set_option maxHeartbeats 400000 in
set_option maxRecDepth 100000 in
theorem marked_calls (A B : Option Addr) (n m c d : Nat) (r i : Int) (w : World) (hp : RB w A c (mkL r i 0 n)) (hq : RB w B d (mkL r i 0 m)) (hn : n ≤ 9223372036854775807) (hm : m ≤ 9223372036854775807) :
    Calls Try.prog 25 #[.slice A n c, .slice B m d, .int .i64 r, .int .i64 i] w fun e w' => e = .returned (.bool true) ∧ Drawn w w' := by
  go_enter Try.func25, Try.ntmps25
  go_wp2
  go_loopw [9, 13] (fun _ v wr => ∃ t : Nat, t ≤ n ∧ v = .int .i64 t ∧ Drawn w wr) (fun _ v _ => n - (intOf v).toNat)
  case atStart => exact ⟨0, Nat.zero_le _, rfl, Drawn.refl _⟩
  case round =>
    obtain ⟨t, ht, rfl, hd⟩ := hrel
    by_cases hlt : t < n
    · obtain ⟨a, rfl, hc⟩ := (hp.new (hd.below _)).at_ t (by rw [mkL_length]; exact hlt)
      have hg : (mkL r i 0 n)[t]'(by rw [mkL_length]; exact hlt) = mk r i (t : Int) := by simp [mkL]
      rw [hg] at hc
      have hb : (uB (mk r i (t : Int)) != uB (mk r i (t : Int))) = false := by simp
      clear hg
      go_wp2
      go_quiet ((go_at_call 23; exact Calls.quiet_of_same (mark_quiet r i _ _)))
      go_wp2
      go_roundw
      case rel => exact ⟨t + 1, by omega, by go_num, hd.step _⟩
      case measure => simp [intOf]; omega
    · obtain rfl : t = n := by omega
      obtain ⟨wo, rfl⟩ : ∃ wo : World, wo = wr := ⟨_, rfl⟩
      clear hlt ht
      go_wp2
      go_loopw [10, 28] (fun _ v wr => ∃ t : Nat, t ≤ m ∧ v = .int .i64 t ∧ Drawn w wr) (fun _ v _ => m - (intOf v).toNat)
      case atStart => exact ⟨0, Nat.zero_le _, rfl, hd⟩
      case round =>
        obtain ⟨t, ht, rfl, hd2⟩ := hrel
        by_cases hlt : t < m
        · obtain ⟨a, rfl, hc⟩ := (hq.new (hd2.below _)).at_ t (by rw [mkL_length]; exact hlt)
          have hg : (mkL r i 0 m)[t]'(by rw [mkL_length]; exact hlt) = mk r i (t : Int) := by simp [mkL]
          rw [hg] at hc
          have hb : (uB (mk r i (t : Int)) != uB (mk r i (t : Int))) = false := by simp
          clear hg
          go_wp2
          go_quiet ((go_at_call 23; exact Calls.quiet_of_same (mark_quiet r i _ _)))
          go_wp2
          go_roundw
          case rel => exact ⟨t + 1, by omega, by go_num, hd2.step _⟩
          case measure => simp [intOf]; omega
        · obtain rfl : t = m := by omega
          go_wp2
          go_ret
          exact ⟨rfl, hd2⟩
end Go.Proofs.Ytlcbjjgmkllceaa
