/- Plain laws on frames: one byte turned. -/
import Derived.Test.YtdpmalegpjimfaaFrameMath
namespace Go.Proofs.Ytdpmalegpjimfaa
open WireMath (wideL numS beN byteAt)
open FrameMath (head crcP laid)

theorem laid_form (place : Nat) (p : List UInt8) : laid place p = [0xf5] ++ (head place p ++ (wideL (crcP place p).toNat 4 ++ (p ++ [0x5f]))) := by simp [FrameMath.laid]
theorem laid_g1 (place : Nat) (p : List UInt8) (j : Nat) (h : j < 12) : (laid place p)[j + 1]? = (head place p ++ p)[j]? := by
  have hh := FrameMath.head_length place p
  rw [laid_form, List.getElem?_append_right (by simp)]
  simp only [List.length_singleton, Nat.add_sub_cancel]
  rw [List.getElem?_append_left (by omega), List.getElem?_append_left (by omega)]
theorem laid_g2 (place : Nat) (p : List UInt8) (j : Nat) (h : 12 ≤ j) (h2 : j < 12 + p.length) : (laid place p)[j + 5]? = (head place p ++ p)[j]? := by
  have hh := FrameMath.head_length place p
  have hc := WireMath.wideL_length (crcP place p).toNat 4
  rw [laid_form, List.getElem?_append_right (by simp), List.length_singleton, List.getElem?_append_right (by omega), List.getElem?_append_right (by omega), List.getElem?_append_left (by omega), List.getElem?_append_right (by omega)]
  rw [show j + 5 - 1 - (head place p).length - (wideL (crcP place p).toNat 4).length = j - (head place p).length by omega]
theorem laid_g3 (place : Nat) (p : List UInt8) (k : Nat) (h : k < 4) : (laid place p)[13 + k]? = (wideL (crcP place p).toNat 4)[k]? := by
  have hh := FrameMath.head_length place p
  have hc := WireMath.wideL_length (crcP place p).toNat 4
  rw [laid_form, List.getElem?_append_right (by simp; omega), List.length_singleton, List.getElem?_append_right (by omega), List.getElem?_append_left (by omega)]
  congr 1
  omega
theorem crcP_sum (place : Nat) (p : List UInt8) : crcP place p = CrcMath.sum ((head place p ++ p).map bW) := by
  rw [map_bW_append]; unfold CrcMath.sum; rw [CrcMath.upd_append]; rfl
theorem laid_of_body (place place' : Nat) (p p' : List UInt8) (h : head place p ++ p = head place' p' ++ p') : laid place p = laid place' p' := by
  obtain ⟨h1, h2⟩ := List.append_inj h (by rw [FrameMath.head_length, FrameMath.head_length])
  have hc : crcP place p = crcP place' p' := by rw [crcP_sum, crcP_sum, h]
  rw [laid_form, laid_form, h1, hc, h2]
theorem bW_lt (b : UInt8) : (bW b).toNat < 256 := by
  have := b.toNat_lt
  unfold bW; rw [BitVec.toNat_ofNat]; omega
theorem bW_inj {a b : UInt8} (h : bW a = bW b) : a = b := by
  have h1 := congrArg BitVec.toNat h
  have := a.toNat_lt
  have := b.toNat_lt
  unfold bW at h1
  rw [BitVec.toNat_ofNat, BitVec.toNat_ofNat] at h1
  exact UInt8.toNat_inj.1 (by omega)
theorem crc_of_wide {x y : CrcMath.W} (h : wideL x.toNat 4 = wideL y.toNat 4) : x = y := by
  have h1 := congrArg beN h
  rw [beN_wideL, beN_wideL] at h1
  have := x.isLt
  have := y.isLt
  exact BitVec.eq_of_toNat_eq (by omega)
/-- two frames of one length whose bytes are alike but for one byte, not of the length -/
theorem laid_alike (place place' : Nat) (p p' : List UInt8) (hl : p.length = p'.length) (i : Nat) (h : ∀ j, j ≠ i → (laid place p)[j]? = (laid place' p')[j]?) : laid place p = laid place' p' := by
  have hh := FrameMath.head_length place p
  have hh' := FrameMath.head_length place' p'
  have hb : ∀ j, j + 1 ≠ i ∧ j < 12 ∨ j + 5 ≠ i ∧ 12 ≤ j ∧ j < 12 + p.length → (head place p ++ p)[j]? = (head place' p' ++ p')[j]? := by
    intro j hj
    rcases hj with ⟨h1, h2⟩ | ⟨h1, h2, h3⟩
    · rw [← laid_g1 place p j h2, ← laid_g1 place' p' j h2]; exact h _ h1
    · rw [← laid_g2 place p j h2 h3, ← laid_g2 place' p' j h2 (by omega)]; exact h _ h1
  apply laid_of_body
  by_cases hA : (1 ≤ i ∧ i ≤ 12) ∨ (17 ≤ i ∧ i < 17 + p.length)
  · have hcrc : crcP place p = crcP place' p' := by
      apply crc_of_wide
      apply List.ext_getElem?
      intro k
      by_cases hk : k < 4
      · rw [← laid_g3 place p k hk, ← laid_g3 place' p' k hk]; exact h _ (by omega)
      · rw [List.getElem?_eq_none (by rw [WireMath.wideL_length]; omega), List.getElem?_eq_none (by rw [WireMath.wideL_length]; omega)]
    rw [crcP_sum, crcP_sum] at hcrc
    have hm := CrcMath.sum_tells ((head place p ++ p).map bW) ((head place' p' ++ p').map bW) (if i ≤ 12 then i - 1 else i - 5) (by simp [hh, hh', hl])
      (fun v hv => by obtain ⟨b, _, rfl⟩ := List.mem_map.1 hv; exact bW_lt b) (fun v hv => by obtain ⟨b, _, rfl⟩ := List.mem_map.1 hv; exact bW_lt b)
      (fun j hj hj' ha => by
        have hj2 : j < 12 + p.length := by simpa [hh] using hj
        have he : (head place p ++ p)[j]? = (head place' p' ++ p')[j]? := by
          apply hb
          by_cases h12 : j < 12
          · exact .inl ⟨by split at ha <;> omega, h12⟩
          · exact .inr ⟨by split at ha <;> omega, by omega, hj2⟩
        simp only [List.getElem_map]
        congr 1
        have e1 := List.getElem?_eq_getElem (l := head place p ++ p) (i := j) (by simpa using hj)
        have e2 := List.getElem?_eq_getElem (l := head place' p' ++ p') (i := j) (by simpa using hj')
        rw [e1, e2] at he
        exact Option.some.inj he) hcrc
    exact List.map_inj_right (f := bW) (fun a b => bW_inj) |>.1 hm
  · apply List.ext_getElem?
    intro j
    by_cases hj : j < 12 + p.length
    · apply hb
      omega
    · rw [List.getElem?_eq_none (by simp [hh]; omega), List.getElem?_eq_none (by simp [hh']; omega)]
theorem laid_len (place : Nat) (p : List UInt8) (k : Nat) (h : k < 4) : (laid place p)[k + 1]? = (wideL p.length 4)[k]? := by
  have hc := WireMath.wideL_length p.length 4
  have hh := FrameMath.head_length place p
  rw [laid_g1 place p k (by omega), List.getElem?_append_left (by omega)]
  unfold FrameMath.head
  rw [List.getElem?_append_left (by omega)]
theorem next_turned (place : Nat) (p : List UInt8) (h1 : 1 ≤ p.length) (h2 : p.length ≤ 65535) (x : UInt8) (i : Nat) (hi : i < p.length + 18) (hn : ¬(1 ≤ i ∧ i ≤ 4)) (hx : (laid place p)[i]? ≠ some x) :
    nextF ((laid place p).set i x) 0 = noNx 2 0 := by
  have hL := FrameMath.laid_length place p
  have hlen : ((laid place p).set i x).length = p.length + 18 := by rw [List.length_set, hL]
  by_cases hk : (nextF ((laid place p).set i x) 0).kind = 1
  · exfalso
    obtain ⟨a, ha, k1, k2, k3, k4, k5, k6⟩ := next_whole _ _ hk
    obtain rfl : a = 0 := by omega
    generalize (nextF ((laid place p).set i x) 0).payload = pay at *
    generalize (nextF ((laid place p).set i x) 0).place = pl at *
    rw [List.drop_zero] at k6
    have hget : ∀ j, j < pay.length + 18 → (laid pl pay)[j]? = ((laid place p).set i x)[j]? := by
      intro j hj
      rw [k6, List.getElem?_take_of_lt hj]
    have hw : wideL pay.length 4 = wideL p.length 4 := by
      apply List.ext_getElem?
      intro k
      by_cases hk4 : k < 4
      · rw [← laid_len pl pay k hk4, ← laid_len place p k hk4, hget _ (by omega), List.getElem?_set_ne (by omega)]
      · rw [List.getElem?_eq_none (by rw [WireMath.wideL_length]; omega), List.getElem?_eq_none (by rw [WireMath.wideL_length]; omega)]
    have hm : pay.length = p.length := by
      have := congrArg beN hw
      rw [beN_wideL, beN_wideL] at this
      omega
    have hal := laid_alike place pl p pay hm.symm i (fun j hj => by
      by_cases hjl : j < pay.length + 18
      · rw [hget j hjl, List.getElem?_set_ne (Ne.symm hj)]
      · rw [List.getElem?_eq_none (by omega), List.getElem?_eq_none (by rw [FrameMath.laid_length]; omega)])
    apply hx
    rw [hal, hget i (by omega), List.getElem?_set_self (by omega)]
  · rw [next_other _ _ hk, if_neg (by omega)]
end Go.Proofs.Ytdpmalegpjimfaa
