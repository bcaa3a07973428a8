import Derived.Test.YtpmnnnbkbcpgjaaGreatDoorQBh
/- The walk of notarylaw08.doc: a head as the document has it. -/
namespace Go.Proofs.YtpmnnnbkbcpgjaaGreatDoor
open Go.RowKit

theorem results_doc {fn : Func} {p : Tmp} (h : fn.results = #[.cell p 41]) (tmps : Array Value) (w : World) (b : Nat) (x y z t : Value) (hp : tmps.getD p undef = .pointer (some ⟨b, 0, none⟩)) (hr : Row w b 41 [x, y, z, t]) :
    (results fn tmps).run Tryz.prog w = .ok (.agg #[x, y, z, t]) w := by
  have hp' : tmps[p]?.getD undef = .pointer (some ⟨b, 0, none⟩) := by simpa using hp
  have hl := run_loadVar_mid (P := Tryz.prog) w b 0 41 [x, y, z, t] _ (fun j v hj => by
    rw [Nat.zero_add, hr.cell j]
    exact hj) Tryz.underlying41 rfl (by kernel_rfl)
  simp [results, h, hp', asAddr, hl]
set_option maxRecDepth 100000 in
theorem doc_calls (n e f x : Int) (w : World) : Calls Tryz.prog 19 #[.agg #[.int .u64 n, .int .u64 e, .int .u64 f, .int .i64 x]] w fun r w' => r = .returned (.agg #[.int .u64 n, .int .u64 e, .int .u64 f, .int .i64 x]) ∧ Below w.heap.size w w' := by
  have R0 := Row.fresh w w.heap.size rfl 32 [.int .u64 n, .int .u64 e, .int .u64 f, .int .i64 x] #[.int .u64 n, .int .u64 e, .int .u64 f, .int .i64 x] rfl
  have c0 := R0.c 0 _ rfl
  have c1 := R0.c 1 _ rfl
  have c2 := R0.c 2 _ rfl
  have c3 := R0.c 3 _ rfl
  have HB := Lib.hid (below_alloc1 (Below.refl w.heap.size w) (Nat.le_refl _) (.cells #[.int .u64 n, .int .u64 e, .int .u64 f, .int .i64 x] 32))
  have HB2 := Lib.hid (belowA HB.out (.cells #[.int .u64 n, .int .u64 e, .int .u64 f, .int .i64 x] 41))
  have HR2 := Lib.hid (Row.fresh (w.alloc (.cells #[.int .u64 n, .int .u64 e, .int .u64 f, .int .i64 x] 32)) (w.heap.size + 1) (asz _ _).symm 41 [.int .u64 n, .int .u64 e, .int .u64 f, .int .i64 x] #[.int .u64 n, .int .u64 e, .int .u64 f, .int .i64 x] rfl)
  clear R0
  go_enter Tryz.func19, Tryz.ntmps19
  go_wp2
  exact bodyPost_ret (results_doc rfl _ _ (w.heap.size + 1) _ _ _ _ rfl HR2.out) rfl ⟨rfl, HB2.out⟩
end Go.Proofs.YtpmnnnbkbcpgjaaGreatDoor
