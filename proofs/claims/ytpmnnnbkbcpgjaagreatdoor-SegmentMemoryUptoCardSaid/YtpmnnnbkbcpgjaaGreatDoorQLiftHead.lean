import Derived.Test.YtpmnnnbkbcpgjaaGreatDoorQLiftAgg
/- How a segment's head that comes in as an argument reads: for the rows. -/
namespace Go.Proofs.YtpmnnnbkbcpgjaaGreatDoor
open Go.ChangeShapes Go.WideShapes Go.RowKit

set_option maxRecDepth 100000 in
theorem open_head {H : Type} {enc : TypeId × Value → H} {W : World} {base : Nat} {sp : Nat → Bool} {held : Bool} {r : Reach} {b0 : Nat} {v : Value} {d : DataW H} {ps : List MemPlace} (hv : Value.okWide Tryz.prog W r b0 32 v)
    (h : DataW.Trod enc Tryz.prog W base sp held 32 v d ps) : ∃ n e f x : Int, v = .agg #[.int .u64 n, .int .u64 e, .int .u64 f, .int .i64 x] ∧ (0 ≤ n ∧ n ≤ 18446744073709551615) ∧ (0 ≤ e ∧ e ≤ 18446744073709551615) ∧ (0 ≤ f ∧ f ≤ 18446744073709551615) ∧ (-9223372036854775808 ≤ x ∧ x ≤ 9223372036854775807) := by
  obtain ⟨v0, v1, v2, v3, y0, y1, y2, y3, n, rfl, rfl, _, t0, t1, t2, t3⟩ := Joins.open_agg4 Tryz.underlying32 (by kernel_rfl) (by kernel_rfl) hv h
  obtain ⟨a, rfl, wa⟩ := open_num_cell Tryz.underlying22 t0
  obtain ⟨b, rfl, wb⟩ := open_num_cell Tryz.underlying22 t1
  obtain ⟨c, rfl, wc⟩ := open_num_cell Tryz.underlying22 t2
  obtain ⟨x, rfl, wx⟩ := open_num_cell Tryz.underlying3 t3
  exact ⟨a, b, c, x, rfl, u64_of wa, u64_of wb, u64_of wc, i64_of wx⟩
end Go.Proofs.YtpmnnnbkbcpgjaaGreatDoor
