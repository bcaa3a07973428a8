/- How a root that comes in as an argument reads: for the rows. -/
import Derived.Test.YtelecdncdaepnaaLift
import Derived.Test.YtelecdncdaepnaaLiftAgg
import Derived.Test.YtelecdncdaepnaaRootEnc
import Derived.Deep.Strs
namespace Go.Proofs.Ytelecdncdaepnaa
open Go.ChangeShapes Go.WideShapes Go.RowKit

theorem bytes_of_cells : ∀ (L : List Value), (∀ v ∈ L, ∃ b : UInt8, v = .int .u8 (uB b)) → ∃ l, L = encB l
  | [], _ => ⟨[], rfl⟩
  | v :: L, h => by
    obtain ⟨b, rfl⟩ := h v (by simp)
    obtain ⟨l, rfl⟩ := bytes_of_cells L (fun v hv => h v (by simp [hv]))
    exact ⟨b :: l, rfl⟩
theorem open_digest_cells {H : Type} {enc : TypeId × Value → H} {P : Program} {W : World} {base n : Nat} {spare : Nat → Bool} {held : Bool} {t e : TypeId} {N : Nat} {L : List Value} {y : DataW H × List MemPlace}
    (hu : P.underlying t = some (.array N e)) (he : P.underlying e = some (.int .u8)) (hce : P.cellsOf e = 1) (hct : P.cellsOf t = N)
    (h : DataW.trod enc P W base spare held n t L = some y) : ∃ l, L = encB l ∧ l.length = N := by
  obtain ⟨xs, m, _, _, hl, hxl, hi⟩ := DataW.trod_array hu h
  rw [hct] at hl
  obtain ⟨l, rfl⟩ := bytes_of_cells L (by
    intro v hv
    obtain ⟨i, hiL, rfl⟩ := List.mem_iff_getElem.1 hv
    have h1 := hi i (by omega)
    rw [hce, Nat.mul_one, List.getElem?_eq_getElem (by omega)] at h1
    obtain ⟨a, h2, _, h4⟩ := DataW.trod_int he h1
    obtain ⟨b, rfl⟩ := byte_of h4
    have h5 : (List.drop i L)[0]? = some L[i] := by rw [List.getElem?_drop]; simp [hiL]
    have h6 : (List.take 1 (List.drop i L))[0]? = some (.int .u8 (uB b)) := by rw [h2]; rfl
    rw [List.getElem?_take, if_pos (by omega), h5] at h6
    exact ⟨b, Option.some.inj h6⟩)
  exact ⟨l, rfl, by rw [encB_length] at hl; exact hl⟩
set_option maxRecDepth 100000 in
theorem open_root {H : Type} {enc : TypeId × Value → H} {W : World} {base b0 : Nat} {spare : Nat → Bool} {held : Bool} {rc : Reach} {v : Value} {d : DataW H} {p : List MemPlace}
    (hv : Value.okWide Try.prog W rc b0 63 v) (h : DataW.Trod enc Try.prog W base spare held 63 v d p) : ∃ r : Rt, v = .agg (rtL r).toArray ∧ RtOk r := by
  obtain ⟨cs, rfl, hsz⟩ := okWide_struct Try.underlying63 hv
  obtain ⟨fuel, hf⟩ := h
  obtain ⟨y0, y1, y2, n, _, hl, h0, h1, h2⟩ := Go.Deep.trod_struct3 Try.underlying63 hf
  obtain ⟨a, e0, _, hw⟩ := DataW.trod_int Try.underlying32 h0
  obtain ⟨l, e1, l1⟩ := open_digest_cells Try.underlying61 Try.underlying5 (by kernel_rfl) (by kernel_rfl) h1
  obtain ⟨m, e2, l2⟩ := open_digest_cells Try.underlying61 Try.underlying5 (by kernel_rfl) (by kernel_rfl) h2
  have k1 : Try.prog.cellsOf 32 = 1 := by kernel_rfl
  have k2 : Try.prog.cellsOf 61 = 32 := by kernel_rfl
  have k3 : Try.prog.cellsOf 63 = 65 := by kernel_rfl
  rw [k3] at hl
  simp only [k1] at e0
  simp only [k2] at e1 e2
  have b := bounds_u64 hw
  obtain ⟨s, rfl⟩ := Int.eq_ofNat_of_zero_le b.1
  have hcs : (Value.agg cs).cells.toList = rtL ⟨s, l, m⟩ := by
    have e3 : (Value.agg cs).cells.toList = (Value.agg cs).cells.toList.take 1 ++ (((Value.agg cs).cells.toList.drop 1).take 32 ++ ((Value.agg cs).cells.toList.drop 33)) := by
      rw [← List.drop_drop (i := 32) (j := 1), List.take_append_drop, List.take_append_drop]
    have e4 : ((Value.agg cs).cells.toList.drop 33).take 32 = (Value.agg cs).cells.toList.drop 33 := List.take_of_length_le (by rw [List.length_drop]; omega)
    rw [List.drop_zero] at e0
    rw [e3, e0, e1, ← e4, e2]
    rfl
  refine ⟨⟨s, l, m⟩, ?_, ⟨by show s ≤ _; omega, l1, l2⟩⟩
  rw [← hcs]
  simp [Value.cells]
end Go.Proofs.Ytelecdncdaepnaa
