/- The walks of layer 5: refuse, and what is given up with. -/
import Derived.Test.YtelecdncdaepnaaEntryTwin
import Derived.WalkSmall
import Derived.Recover
namespace Go.Proofs.Ytelecdncdaepnaa
open Go.RowKit

def refV (e : Int) : Value := .iface 129 (.agg #[.int .i64 e])
theorem refuse_ok (w : World) : Calls Try.prog 60 #[.int .i64 0] w fun r w' => r = .returned (.tuple #[]) ∧ w = w' := by
  go_enter Try.func60, Try.ntmps60
  go_wp2
  go_end0
  exact ⟨rfl, rfl⟩
theorem refuse_no (e : Int) (he : e ≠ 0) (w : World) : Calls Try.prog 60 #[.int .i64 e] w fun r w' => r = .panicked [{ v := refV e, recovered := false }] ∧ w = w' := by
  have hb : (e != 0) = true := by rw [bne_iff_ne]; exact he
  clear he
  go_enter Try.func60, Try.ntmps60
  go_wp2
  exact ⟨rfl, rfl, rfl⟩
theorem assert_ref (e : Int) (w : World) : (Instr.typeAssert (refV e) 20 129 true).run Try.prog w = .ok (.tuple #[.agg #[.int .i64 e], .bool true]) w := by kernel_rfl
theorem cell_at_new0 (w : World) (v : Value) (t : TypeId) : (w.alloc (.cells #[v] t)).cell? ⟨w.heap.size, 0, none⟩ = some v := by rw [cell_of_row _ _ _ _ _ _ (heap_alloc_new w _)]; rfl
theorem caught_panic (p : Addr) (e : Int) (x : Value) (w : World) (hc : w.cell? p = some x) (hz : w.frozen? p = false) :
    CallsD Try.prog 57 #[.pointer (some p)] (.panicking [{ v := refV e, recovered := false }]) w fun r u' w' =>
      r = .returned (.tuple #[]) ∧ u' = .panicking [{ v := refV e, recovered := true }] ∧ w' = (w.alloc (.cells #[.int .i64 e] 129)).setCell p (.int .i64 e) := by
  refine callsD_of_wpS Try.func57 rfl fun c₀ cs hu => ?_
  unfold refV at hu
  apply wpS_seq
  apply wpS_region
  simp [wpOpsS, go_sem, recoverD, hu, Try.ntmps57, Exit.thenS]
  apply wpS_seq
  apply wpS_region
  simp [wpOpsS, go_sem, recoverD, Exit.thenS]
  refine wpS_cond (t := true) (by simp [Act.eval, Array.replicate]) ?_
  simp only [if_true]
  apply wpS_seq
  apply wpS_region
  have hta := assert_ref e
  unfold refV at hta
  simp [wpOpsS, go_sem, recoverD, Exit.thenS, hta]
  apply wpS_seq
  apply wpS_seq
  apply wpS_region
  simp [wpOpsS, go_sem, recoverD, Exit.thenS]
  refine wpS_cond (t := false) (by simp [Act.eval, Array.replicate]) ?_
  simp only [Bool.false_eq_true, if_false]
  refine wpS_of_wp (wp_skip ?_)
  simp only [Exit.thenS]
  apply wpS_region
  have h0 := cell_at_new0 w (.int .i64 e) 129
  have hc1 : (w.alloc (.cells #[.int .i64 e] 129)).cell? p = some x := ((below_alloc1 (Below.refl w.heap.size w) (Nat.le_refl _) _).cell (World.block_lt_of_cell? w _ hc)).trans hc
  have hz1 : (w.alloc (.cells #[.int .i64 e] 129)).frozen? p = false := ((below_alloc1 (Below.refl w.heap.size w) (Nat.le_refl _) _).frozen (World.block_lt_of_cell? w _ hc)).trans hz
  simp [wpOpsS, go_sem, hc1, hz1, h0, bodyPostS, results, Try.results57]
  rfl
set_option maxRecDepth 100000 in
theorem caught_idle (p : Addr) (w : World) :
    CallsD Try.prog 57 #[.pointer (some p)] .returning w fun r u' w' => r = .returned (.tuple #[]) ∧ u' = .returning ∧ w' = w := by
  refine callsD_of_wpS Try.func57 rfl fun c₀ cs hu => ?_
  apply wpS_seq
  apply wpS_region
  simp [wpOpsS, go_sem, recoverD, hu, Try.ntmps57, Exit.thenS]
  apply wpS_seq
  apply wpS_region
  simp [wpOpsS, go_sem, recoverD, Exit.thenS]
  refine wpS_cond (t := false) (by simp [Act.eval, Array.replicate]) ?_
  simp only [Bool.false_eq_true, if_false]
  refine wpS_of_wp (wp_skip ?_)
  cases c₀
  simp_all [bodyPostS, results, Try.results57]
theorem undo_ok (pe pa : Addr) (u : FrameMode) (w : World) (hc : w.cell? pe = some (.int .i64 0)) :
    CallsD Try.prog 65 #[.pointer (some pe), .pointer (some pa)] u w fun r u' w' => u' = u ∧ (r = .returned (.tuple #[]) ∧ w' = w) := by
  go_enter_d Try.func65, Try.ntmps65
  go_wp2
  go_end0
  exact ⟨rfl, rfl⟩
theorem undo_no (pe : Addr) (g : Nat) (e : Int) (he : e ≠ 0) (x y z : Value) (u : FrameMode) (w : World) (hc : w.cell? pe = some (.int .i64 e)) (hT : Trio w g x y z) :
    CallsD Try.prog 65 #[.pointer (some pe), .pointer (some ⟨g, 0, none⟩)] u w fun r u' w' => u' = u ∧ (r = .returned (.tuple #[]) ∧ w' = ((w.setCell ⟨g, 0, none⟩ (.int .u8 0)).setCell ⟨g, 1, none⟩ (.slice none 0 0)).setCell ⟨g, 2, none⟩ (.slice none 0 0)) := by
  have hb : (e != 0) = true := by rw [bne_iff_ne]; exact he
  have h0 := hT.c0
  have h1 := hT.c1
  have h2 := hT.c2
  have f0 := hT.fz 0
  have f1 := hT.fz 1
  have f2 := hT.fz 2
  clear he
  go_enter_d Try.func65, Try.ntmps65
  go_wp2
  go_end0
  exact ⟨rfl, rfl⟩
end Go.Proofs.Ytelecdncdaepnaa
