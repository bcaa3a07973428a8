/- Words for the last laws of layer 5: roots compared, encoded, decoded; entries and batches under names. -/
import Derived.Test.YtelecdncdaepnaaRootMath
import Derived.Test.YtelecdncdaepnaaEntryMath2
import Derived.Test.YtelecdncdaepnaaAwake5
namespace Go.Proofs.Ytelecdncdaepnaa
open Go.RowKit
open WireMath (numS beN rawS blobS uvarS grpL uvarL wideL)

theorem extract_log2 (r : Rt) (h : RtOk r) : (rtL r).toArray.extract 1 33 = rB r.l := by
  unfold rB rtL
  rw [← Array.toList_inj]
  simp only [Array.toList_extract, List.extract_eq_take_drop]
  rw [List.drop_succ_cons, List.drop_zero, List.take_append_of_le_length (by rw [encB_length, h.l]; omega), List.take_of_length_le (by rw [encB_length, h.l]; omega)]
theorem extract_map2 (r : Rt) (h : RtOk r) : (rtL r).toArray.extract 33 65 = rB r.m := by
  unfold rB rtL
  rw [← Array.toList_inj]
  simp only [Array.toList_extract, List.extract_eq_take_drop]
  rw [List.drop_succ_cons, List.drop_append, List.drop_eq_nil_of_le (show (encB r.l).length ≤ 32 by rw [encB_length, h.l]; omega), List.nil_append, encB_length, h.l, Nat.sub_self, List.drop_zero, List.take_of_length_le (by rw [encB_length, h.m]; omega)]
theorem run_equalRR2 (w : World) (r : Rt) (h : RtOk r) : (Op.equalIn 10000 63 (.agg (rtL r).toArray) (.agg (rtL r).toArray)).run Try.prog w = .ok true w := by
  have hs : ∀ w, (sizeOf 5).run Try.prog w = .ok 1 w := run_sizeOf 5 1 (by kernel_rfl)
  have hsz : ∀ w, (sizeOf 61).run Try.prog w = .ok 32 w := run_sizeOf 61 32 (by kernel_rfl)
  have h1 := fun w => run_equalIn_bytes (P := Try.prog) w 9997 61 5 32 Try.underlying61 Try.underlying5 hs r.l r.l h.l h.l
  have h2 := fun w => run_equalIn_bytes (P := Try.prog) w 9997 61 5 32 Try.underlying61 Try.underlying5 hs r.m r.m h.m h.m
  rw [run_equalIn_struct w 9999 63 _ _ (by kernel_rfl) (by kernel_rfl)]
  have hu := fun w => run_underlying (P := Try.prog) Try.underlying61 w
  have hu2 := fun w => run_underlying (P := Try.prog) Try.underlying32 w
  have pl : (List.take 32 (rtL r).tail).toArray = rB r.l := by have := extract_log2 r h; simpa using this
  have pm : (List.take 32 (List.drop 33 (rtL r))).toArray = rB r.m := by have := extract_map2 r h; simpa using this
  have p0 : (rtL r).toArray[0]? = some (.int .u64 r.s) := rfl
  rw [show (9997 + 2 : Nat) = 9999 from rfl, ← rB_cell] at h1 h2
  have h0 := fun w => run_equalIn_int (P := Try.prog) w 9998 32 .u64 .u64 (r.s : Int) (r.s : Int) Try.underlying32
  rw [show (9998 + 1 : Nat) = 9999 from rfl] at h0
  simp [Program.fieldsOf, Try.underlying63, Op.eqFields, part, isAgg, hu, hu2, hsz, p0, pl, pm, h0, h1, h2]
theorem encodeRootN2 (n : Int) (r : Rt) (h : RtOk r) (w : World) (q : List UInt8) (e : Nat) (hq : encR n r = (q, e)) (C : Array Value) (hC : C = (rtL r).toArray) :
    Calls Try.prog 33 #[.int .i64 n, .agg C] w fun x w' => ∃ A' c', x = .returned (.tuple #[.slice A' q.length c', .int .i64 e]) ∧ NewB w w' (.slice A' q.length c') q := by
  subst hC
  have := encodeRoot_calls n r h w _ _ rfl rfl
  rw [hq] at this; exact this
theorem decR_ok2 (m : Int) (P : List UInt8) : RtOk (decR m P).2 := by
  unfold decR
  split
  · exact zeroR_ok
  · split
    · rename_i h1 h2
      have hk : 1 ≤ m ∧ m ≤ 32 := by unfold wideF at h1; split at h1 <;> omega
      refine ⟨?_, padR_length _ (by rw [List.length_take]; omega), padR_length _ (by rw [List.length_take]; omega)⟩
      have h9 := WireMath.beN_lt (P.take 8) 8 (List.length_take_le _ _)
      show beN (P.take 8) ≤ _
      omega
    · exact zeroR_ok
theorem encEN2 (e : En) (a : EnA) (n m : Nat) (hn : n = e.K.length) (hm : m = e.V.length) (w : World) (hok : EnOk w e a) (q : List UInt8) (g : Nat) (hq : encE e = (q, g)) :
    Calls Try.prog 22 #[.agg #[.int .u8 e.k, .slice a.KA n a.kc, .slice a.VA m a.vc]] w fun r w' => ∃ A' c', r = .returned (.tuple #[.slice A' q.length c', .int .i64 g]) ∧ NewB w w' (.slice A' q.length c') q := by
  have := encodeE_calls e a n m hn hm w hok
  rw [hq] at this; exact this
theorem decEN2 (A : Option Addr) (P : List UInt8) (n c : Nat) (w : World) (hp : RB w A c P) (hn : n = P.length) (hl : P.length ≤ 140737488355328) (f : Nat) (v : En) (hv : decF P = (f, v)) :
    Calls Try.prog 24 #[.slice A n c] w fun r w' => ∃ a : EnA, r = .returned (.tuple #[.agg #[.int .u8 v.k, .slice a.KA v.K.length a.kc, .slice a.VA v.V.length a.vc], .int .i64 f]) ∧ NewE w w' v a := by
  have := decodeE_calls A P n c w hp hn hl
  rw [hv] at this; exact this
theorem decBN2 (A : Option Addr) (P : List UInt8) (n c : Nat) (w : World) (hp : RB w A c P) (hn : n = P.length) (hl : P.length ≤ 140737488355328) (e f : Nat) (l : List En) (ht : decB P = ⟨e, f, l⟩) :
    Calls Try.prog 21 #[.slice A n c] w fun r w' => ∃ A' c', r = .returned (.tuple #[.agg #[.int .u64 f, .slice A' l.length c'], .int .i64 e]) ∧ BatAt w w' A' l.length l := decodeB_calls A P n c w hp hn hl _ ht
theorem encE_err (e : En) (q : List UInt8) (g : Nat) (h : encE e = (q, g)) : chkF e = g := by
  unfold encE at h
  split at h
  · rename_i h0; injection h with _ h2; omega
  · injection h with _ h2
theorem encR_len (m : Int) (r : Rt) : (encR m r).1.length ≤ 72 := by
  unfold encR
  split
  · simp
  · split
    · rename_i h1 h2
      have := h2.1.2.1
      unfold rootL
      rw [List.length_append, List.length_append, List.length_take, List.length_take, WireMath.wideL_length]
      omega
    · simp
theorem alloc2 (w : World) (X Y : Obj) : Below w.heap.size w ((w.alloc X).alloc Y) := belowA (below_alloc1 (Below.refl _ _) (Nat.le_refl _) X) Y
theorem encBF_len2 (f : Nat) (l : List En) : (encBF f l).1.length ≤ 22000 := by
  unfold encBF
  split
  · rename_i h
    unfold errB at h
    obtain ⟨h1, h2⟩ := fold_zero _ _ h
    obtain ⟨_, _, h3⟩ := err0_zero _ _ h1
    have h4 := flat_le l h2
    have h5 := WireMath.uvarL_length f
    have h6 := WireMath.uvarL_length l.length
    show (encBL f l).length ≤ _
    unfold encBL
    rw [List.length_append, List.length_append]; omega
  · simp
theorem encE_len2 (e : En) : (encE e).1.length ≤ 341 := by
  unfold encE
  split
  · rename_i h
    have h1 := chk_small e h
    have h2 := encL_length e
    show (encL e).length ≤ 341
    omega
  · simp
theorem decF_k2 (P : List UInt8) : (decF P).2.k ≤ 255 := by
  unfold decF
  split
  · exact Nat.zero_le _
  · rename_i h
    split
    · exact Nat.zero_le _
    · have := entS_k P 0 (by omega)
      simp only; omega
end Go.Proofs.Ytelecdncdaepnaa
