/- Plain law: a frame cut short, with noughts behind it, is none. -/
import Derived.Test.YtdpmalegpjimfabFrameScanMath
namespace Go.Proofs.Ytdpmalegpjimfab
open WireMath (wideL numS beN byteAt)
open FrameMath (head crcP laid)

theorem laid_last (place : Nat) (p : List UInt8) : (laid place p)[p.length + 17]? = some 0x5f := by
  have hl := FrameMath.laid_length place p
  have e : laid place p = ([0xf5] ++ (wideL p.length 4 ++ (wideL place 8 ++ (wideL (crcP place p).toNat 4 ++ p)))) ++ [0x5f] := by simp [FrameMath.laid, FrameMath.head]
  have hlen : ([0xf5] ++ (wideL p.length 4 ++ (wideL place 8 ++ (wideL (crcP place p).toNat 4 ++ p)))).length = p.length + 17 := by
    simp only [List.length_append, WireMath.wideL_length, List.length_cons, List.length_nil]; omega
  rw [e, List.getElem?_append_right (by omega), hlen, Nat.sub_self]
  rfl
theorem laid_field (place : Nat) (p : List UInt8) : ((laid place p).drop 1).take 4 = wideL p.length 4 := by
  have e := laid_parts place p []
  rw [List.append_nil] at e
  rw [e]
  show (wideL p.length 4 ++ _).take 4 = _
  rw [List.take_left' (WireMath.wideL_length _ _)]
/-- the frame of the bytes ahead of noughts -/
theorem torn_none (place : Nat) (p : List UInt8) (h1 : 1 ≤ p.length) (h2 : p.length ≤ 65535) (cut m : Nat) (hc : cut < p.length + 18) : (nextF ((laid place p).take cut ++ List.replicate m 0) 0).kind ≠ 1 := by
  intro hk
  obtain ⟨a, ea, hp1, hp2, _, _, hle, hld⟩ := next_whole _ 0 hk
  obtain rfl : a = 0 := by omega
  generalize (nextF ((laid place p).take cut ++ List.replicate m 0) 0).payload = pay at *
  generalize (nextF ((laid place p).take cut ++ List.replicate m 0) 0).place = pl at *
  have hlen : ((laid place p).take cut).length = cut := by rw [List.length_take, FrameMath.laid_length]; omega
  rw [List.drop_zero] at hld
  have hlast := laid_last pl pay
  have hfield := laid_field pl pay
  rw [hld] at hlast hfield
  have hge : cut ≤ pay.length + 17 := by
    by_cases h18 : cut ≤ 18
    · omega
    · have hf2 := laid_field place p
      have e1 : ((((laid place p).take cut ++ List.replicate m 0).take (pay.length + 18)).drop 1).take 4 = ((laid place p).drop 1).take 4 := by
        rw [List.drop_take, List.take_take, List.drop_append, hlen, show 1 - cut = 0 by omega, List.drop_zero, List.take_append_of_le_length (by rw [List.length_drop, hlen]; omega), List.drop_take, List.take_take]
        congr 1
        omega
      rw [e1, hf2] at hfield
      have b1 := beN_wideL p.length 4
      have b2 := beN_wideL pay.length 4
      rw [hfield] at b1
      rw [b2] at b1
      have : (256 : Nat) ^ 4 = 4294967296 := by decide
      rw [this] at b1
      omega
  rw [List.getElem?_take, if_pos (by omega), List.getElem?_append_right (by omega), List.getElem?_replicate] at hlast
  split at hlast
  · exact absurd (Option.some.inj hlast) (by decide)
  · simp at hlast
theorem scan_torn (P : List UInt8) (h : (nextF P 0).kind ≠ 1) : scanF P = ([], 0) := by
  unfold scanF
  rw [scanTo, if_neg h]
end Go.Proofs.Ytdpmalegpjimfab
