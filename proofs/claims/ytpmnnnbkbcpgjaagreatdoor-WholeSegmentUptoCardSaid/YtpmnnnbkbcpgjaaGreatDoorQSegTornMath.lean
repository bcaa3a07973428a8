import Derived.Test.YtpmnnnbkbcpgjaaGreatDoorQSegLay
/- Plain laws of layer 8: of what was laid down a beginning, with noughts behind it. -/
namespace Go.Proofs.YtpmnnnbkbcpgjaaGreatDoor
open FrameMath (laid)

theorem readF_torn (h : HdV) (hk : HdOk h) (ls : List (List En)) (ho : okBs h.f ls) (cut z k : Nat) (hkl : k ≤ ls.length) (h1 : endN h.f ls k ≤ cut) (h2 : k = ls.length ∨ cut < endN h.f ls (k + 1)) :
    readF ((headL h ++ frB h.f ls).take cut ++ List.replicate z 0) = ⟨h, ixB h.f (ls.take k), endN h.f ls k, 0⟩ := by
  have e0 : ls = ls.take k ++ ls.drop k := (List.take_append_drop k ls).symm
  have ho2 : okBs h.f (ls.take k) ∧ okBs (endIx h.f (ls.take k)) (ls.drop k) := by
    rw [e0, okBs_append] at ho
    exact ho
  have e1 : headL h ++ frB h.f ls = (headL h ++ frB h.f (ls.take k)) ++ frB (endIx h.f (ls.take k)) (ls.drop k) := by
    conv => lhs; rw [e0, frB_append]
    rw [List.append_assoc]
  have e2 : (headL h ++ frB h.f (ls.take k)).length = endN h.f ls k := by rw [List.length_append, headL_length]; rfl
  have e3 : (headL h ++ frB h.f ls).take cut = (headL h ++ frB h.f (ls.take k)) ++ (frB (endIx h.f (ls.take k)) (ls.drop k)).take (cut - endN h.f ls k) := by
    rw [e1, List.take_append, e2, List.take_of_length_le (by rw [e2]; exact h1)]
  rw [e3, List.append_assoc, List.append_assoc]
  refine readF_stop h hk (ls.take k) _ ho2.1 (.inl ?_)
  by_cases hkn : k = ls.length
  · subst hkn
    rw [List.drop_length]
    simp only [frB, List.take_nil, List.nil_append]
    exact noughts_none z
  · have h2 : cut < endN h.f ls (k + 1) := by rcases h2 with h2 | h2; exact absurd h2 hkn; exact h2
    have hlt : k < ls.length := by omega
    rw [List.drop_eq_getElem_cons hlt] at ho2 ⊢
    obtain ⟨hb, _⟩ := ho2.2
    have hix := okBs_ix hb
    have hsm := encBF_small _ _ _ hb
    rw [frB_cons_len h.f ls k ls[k] (List.getElem?_eq_getElem hlt)] at h2
    simp only [frB]
    rw [List.take_append_of_le_length (by rw [FrameMath.laid_length]; omega)]
    exact torn_none _ (encBL (endIx h.f (ls.take k)) ls[k]) (by omega) (by omega) _ z (by omega)
theorem readF_torn0 (h : HdV) (R : List UInt8) (cut z : Nat) (h1 : cut < 48) : readF ((headL h ++ R).take cut ++ List.replicate z 0) = noSeg := by
  refine readF_none _ ?_
  rw [List.take_append_of_le_length (by rw [headL_length]; omega)]
  have hp := headPay_length h
  exact torn_none h.n (headPay h) (by omega) (by omega) cut z (by omega)
/-- a batch with another index ends the reading -/
theorem readF_gap (h : HdV) (hk : HdOk h) (ls : List (List En)) (ho : okBs h.f ls) (ix : Nat) (l : List En) (hix : ix ≠ endIx h.f ls) (hl : encBF ix l = (encBL ix l, 0)) (R : List UInt8) :
    readF ((headL h ++ frB h.f ls) ++ (laid ix (encBL ix l) ++ R)) = ⟨h, ixB h.f ls, 48 + (frB h.f ls).length, 0⟩ := by
  rw [List.append_assoc]
  have hsm := encBF_small _ _ _ hl
  refine readF_stop h hk ls _ ho (.inr ?_)
  rw [next_laid ix (encBL ix l) R (okBs_ix hl).1 (by omega) (by omega)]
  exact hix
end Go.Proofs.YtpmnnnbkbcpgjaaGreatDoor
