import Derived.Test.YtpmnnnbkbcpgjaaGreatDoorQAwake5
import Derived.Test.YtpmnnnbkbcpgjaaGreatDoorQBi
import Derived.Test.YtpmnnnbkbcpgjaaGreatDoorQLists
/- The walk of notarylaw05.EntryDecodes. -/
namespace Go.Proofs.YtpmnnnbkbcpgjaaGreatDoor
open Go.RowKit
open WireMath (numS beN rawS blobS uvarS grpL uvarL wideL)

theorem Bat.small (P : List UInt8) : (decB P).f ≤ 18446744073709551615 := by
  unfold decB
  have := uvarS_lt P 0 0
  split
  · simp [batNo]
  · split
    · simp [batNo]
    · split
      · simp [batNo]
      · split
        · simp [batNo]
        · unfold batF
          split
          · simp [batNo]
          · split
            · simp [batNo]
            · exact this
theorem entsS_len (P : List UInt8) : ∀ n at_, (entsS P n at_).l.length ≤ n
  | 0, _ => by simp [entsS]
  | n + 1, at_ => by
    unfold entsS
    split
    · simp
    · have := entsS_len P n (entS P at_).at_
      simp only [List.length_cons]; omega
theorem Bat.len (P : List UInt8) : (decB P).l.length ≤ 64 := by
  unfold decB
  split
  · simp [batNo]
  · split
    · simp [batNo]
    · split
      · simp [batNo]
      · split
        · simp [batNo]
        · unfold batF
          split
          · simp [batNo]
          · split
            · simp [batNo]
            · rename_i h _ _ _
              have := entsS_len P (uvarS P (uvarS P 0 0).2.1 0).1 (uvarS P (uvarS P 0 0).2.1 0).2.1
              simp only; omega
theorem decF_k (P : List UInt8) : (decF P).2.k ≤ 255 := by
  rw [decF_take]
  split
  · show 0 ≤ 255; omega
  · exact takeR_k P 0 0
end Go.Proofs.YtpmnnnbkbcpgjaaGreatDoor
