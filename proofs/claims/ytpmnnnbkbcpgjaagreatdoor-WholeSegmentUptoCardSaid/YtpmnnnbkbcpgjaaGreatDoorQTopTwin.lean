import Derived.Test.YtpmnnnbkbcpgjaaGreatDoorQBa
/- The copy that the theorems use. -/
namespace Go.Proofs.YtpmnnnbkbcpgjaaGreatDoor
open Go.RowKit

theorem toptwin_calls (A : Option Addr) (p : List UInt8) (cap : Nat) (w : World) (hp : RB w A cap p) (hl : p.length ≤ 140737488355328) :
    Calls Tryz.prog 39 #[.slice A p.length cap] w fun e w' => ∃ A' c', e = .returned (.slice A' p.length c') ∧ NewB w w' (.slice A' p.length c') p := by
  have hs := hp.small
  go_enter Tryz.func39, Tryz.ntmps39
  go_wp2
  go_loopw [3, 4] (fun v i wr => ∃ k : Nat, k ≤ p.length ∧ i = .int .i64 k ∧ NewB w wr v (p.take k)) (fun _ i _ => p.length - (intOf i).toNat)
  case atStart => exact ⟨0, by omega, rfl, OB.nil _ _ _, Below.refl _ _⟩
  case round =>
    obtain ⟨k, hk, rfl, HN⟩ := hrel
    have HO := HN.own
    have HB := HN.below
    have hz := HB.size
    by_cases hlt : k < p.length
    · obtain ⟨a, rfl, hc⟩ := (hp.new HB).at_ k hlt
      have e1 : p.take (k + 1) = p.take k ++ [p[k]] := List.take_succ_eq_append_getElem hlt
      have E1 := Lib.hid e1
      have hl1 : (p.take k).length ≤ k := List.length_take_le _ _
      clear e1
      go_wp2_with (refine wp_appendB bt rfl (.tmp 11) (.tmp 16) rfl w.heap.size _ (p.take k) rfl (HO.alloc _) (some ⟨wr.heap.size, 0, none⟩) [p[k]] 1 1 rfl rfl (RB.one wr _ _) (by simp <;> omega) (by simp <;> omega) fun v2 w2 ho2 hg2 _ => ?_)
      go_roundw
      case rel => exact ⟨k + 1, by omega, by go_num, by rw [E1.out]; exact ho2, below_grown (below_alloc1 HB (by omega) _) (HO.alloc _) hg2 (by simp <;> omega) (Nat.le_refl _)⟩
      case measure => simp [intOf]; omega
    · have hk' : p.take k = p := List.take_of_length_le (by omega)
      rw [hk'] at HO
      clear HN
      obtain ⟨A', c', rfl, _⟩ := HO.form
      have HK := Lib.hid hk'
      clear hk'
      go_wp2
      go_ret
      exact ⟨A', c', rfl, HO, HB⟩

end Go.Proofs.YtpmnnnbkbcpgjaaGreatDoor
