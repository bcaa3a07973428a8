import Derived.Test.YtpmnnnbkbcpgjaaGreatDoorRows
import Derived.Test.YtpmnnnbkbcpgjaaGreatDoorQLiftUpto
import Derived.Test.YtpmnnnbkbcpgjaaGreatDoorQLaidRow
import Derived.Test.YtpmnnnbkbcpgjaaGreatDoorQSegmentMemory
import Derived.Test.YtpmnnnbkbcpgjaaGreatDoorQLiftEntries
import Derived.Test.YtpmnnnbkbcpgjaaGreatDoorQLiftHead
import Derived.WalkKit
import Derived.ProofKit
import Derived.OpenShut
import Derived.ChangeOld
import Derived.Below
import Derived.SizedLaws
import Derived.ChangeMaps5
/- The row of SegmentMemory, out of its call: for every input that can be read the call returns true, and the input reads as it did. -/
namespace Go.Proofs.YtpmnnnbkbcpgjaaGreatDoor.segmentMemory
open Go.ChangeShapes Go.WideShapes Go.ChangeAt Go.RowKit
set_option linter.unusedVariables false
theorem own : ownKnob Tryz.prog.godebug = none := by kernel_rfl
theorem laidOut : laidOutB Tryz.prog = true := by kernel_rfl
set_option maxRecDepth 100000 in
theorem reads (os : Os) {H : Type} (enc : TypeId × Value → H) : ∃ places, DataW.whole enc Tryz.prog (start8 os #[.slice none 0 0, .agg #[.int .u64 0, .int .u64 0, .int .u64 0, .int .i64 0], .agg #[.int .u64 0, .slice none 0 0]]) Tryz.f10.params.toList Rows.segmentMemorySpec.vars false #[.slice none 0 0, .agg #[.int .u64 0, .int .u64 0, .int .u64 0, .int .i64 0], .agg #[.int .u64 0, .slice none 0 0]].toList 8 = some ([.nil, .agg [.lit (.int .u64 0), .lit (.int .u64 0), .lit (.int .u64 0), .lit (.int .i64 0)], .agg [.lit (.int .u64 0), .nil]], [], places) :=
  ⟨[], by kernel_rfl⟩
set_option maxRecDepth 100000 in
theorem lifted (os : Os) (started : os.Started) (H : Type) (enc : TypeId × Value → H) (F : Stop.Interp) :
    ReturnsInHanded {} Tryz.checked os 10 .any ((Rows.OpenSpec.upto Rows.segmentMemorySpec).preRow enc Tryz.prog Tryz.f10 Rows.segmentMemoryUptoRow.domain false Rows.segmentMemoryUptoRow.laid) (((Rows.OpenSpec.upto Rows.segmentMemorySpec).at F).post enc Tryz.prog Tryz.f10 false true false false) := by
  obtain ⟨places, hx⟩ := reads os enc
  refine returnsInHanded_of_row (C := Tryz.checked) (s := (Rows.OpenSpec.upto Rows.segmentMemorySpec)) own started (by kernel_rfl) Tryz.func10
    (witness_row_atRef (enc := enc) (C := Tryz.checked) false (World.doorLaid Tryz.prog 62 os) #[.slice none 0 0, .agg #[.int .u64 0, .int .u64 0, .int .u64 0, .int .i64 0], .agg #[.int .u64 0, .slice none 0 0]] rfl (by kernel_rfl) (by kernel_rfl) (by kernel_rfl)
      (OpenSpec.preRow_of_cond 8 hx (by kernel_rfl) (fun k hk => by cases hk; kernel_rfl) (by kernel_rfl) (door8 os _))) ?_
  intro W base args ds gs before hval0 hW hcnd hk0 hsz0 hL0 _ _
  have hL := Laid8.of_row hL0
  have hk := hk0 _ rfl
  have hsz : (DataW.weightsEach Tryz.prog (Tryz.f10.params.toList ++ Rows.segmentMemorySpec.plain.varTypes Tryz.prog) (ds ++ gs)).all (· ≤ reachBytes) = true := hsz0
  have hval : ∀ (j : Nat) t v, Tryz.f10.params[j]? = some t → args[j]? = some v → Value.okWide Tryz.prog W .any base t v := hval0
  have hW' := hW
  obtain ⟨p, q, hA0, hV, rfl, hfz, hnd⟩ := hW
  have hA : DataW.TrodAll enc Tryz.prog W 0 (fun _ => true) true Tryz.f10.params.toList args.toList ds p := hA0
  rw [Tryz.params10] at hA hval hsz
  obtain ⟨v0, vs0, d0, ds0, p0, q0, hargs, rfl, rfl, h0, r0⟩ := trodAll_cons hA
  obtain ⟨v1, vs1, d1, ds1, p1, q1, rfl, rfl, rfl, h1, r1⟩ := trodAll_cons r0
  obtain ⟨v2, vs2, d2, ds2, p2, q2, rfl, rfl, rfl, h2, r2⟩ := trodAll_cons r1
  obtain ⟨rfl, rfl, rfl⟩ := trodAll_nil r2
  obtain rfl : args = #[v0, v1, v2] := by cases args; simp_all
  obtain ⟨rfl, rfl⟩ := trodVars_none hV
  obtain ⟨A0, len0, c0, rfl⟩ := okWide_slice Tryz.underlying36 (hval 0 36 v0 rfl rfl)
  have k0 := h0
  have lt0 : ∀ x ∈ p0, x.block < W.heap.size := by obtain ⟨m, hm⟩ := k0; exact DataW.trod_lt m _ _ _ hm
  obtain ⟨b0, rfl, rb0, y0⟩ := open_bytes hsz (j := 0) (t := 36) rfl rfl Tryz.underlying36 Tryz.underlying5 (by kernel_rfl) (by kernel_rfl) h0
  have bk0 := bytes_bulk Tryz.underlying36 Tryz.underlying5 (by kernel_rfl) k0
  have k1 := h1
  have lt1 : ∀ x ∈ p1, x.block < W.heap.size := by obtain ⟨m, hm⟩ := k1; exact DataW.trod_lt m _ _ _ hm
  obtain ⟨N1, E1, F1, X1, rfl, bN1, bE1, bF1, bX1⟩ := open_head (hval 1 32 v1 rfl rfl) h1
  have k2 := h2
  have lt2 : ∀ x ∈ p2, x.block < W.heap.size := by obtain ⟨m, hm⟩ := k2; exact DataW.trod_lt m _ _ _ hm
  obtain ⟨u2, s2, yu2, ys2, n2, rfl, rfl, rfl, hu2, hs2⟩ := Joins.open_agg2 Tryz.underlying35 (by kernel_rfl) (by kernel_rfl) (hval 2 35 v2 rfl rfl) h2
  obtain ⟨a2, rfl, w2⟩ := open_num_cell Tryz.underlying22 hu2
  obtain ⟨A2, c2, l2, rfl, ro2, bk2, bl2⟩ := open_entries_cells (sized_agg hsz (j := 2) (t := 35) rfl rfl Tryz.underlying35) (j := 1) rfl rfl hs2
  have hbulk := bulk_of hk
  simp only [List.append_nil, Rows.uptoBulkAll] at hbulk
  clear hA0 hval0 hsz0 hsz
  refine (segmentMemory_all A0 b0 _ c0 N1 E1 F1 X1 bN1 bE1 bF1 a2 (u64_of w2) A2 l2 _ c2 W hL rb0 rfl (by have := rb0.len; omega) ro2 rfl bk2 bl2).mono fun e W' ⟨he, bel⟩ => ?_
  subst he
  exact ⟨_, rfl, _, _, _, [], _, [], hW', trodAll_mk1 (shut_bool Tryz.underlying4 _), (trodAll_cons_mk (Below.trod laidOut (by kernel_rfl) (of_decide_eq_true (by kernel_rfl)) k0 bel lt0) (trodAll_cons_mk (Below.trod laidOut (by kernel_rfl) (of_decide_eq_true (by kernel_rfl)) k1 bel lt1) (trodAll_cons_mk (Below.trod laidOut (by kernel_rfl) (of_decide_eq_true (by kernel_rfl)) k2 bel lt2) trodAll_mk0))), rfl, bel.frame _, fun h => by cases h⟩
theorem over : Rows.segmentMemoryUptoRow.holds Tryz.pinned (Rows.OpenSpec.upto Rows.segmentMemorySpec) :=
  OpenClaim.holds_of_cond 10 Tryz.f10 rfl rfl rfl rfl rfl rfl rfl ⟨rfl, rfl, rfl, rfl, rfl⟩ rfl rfl rfl rfl rfl (by kernel_rfl) Tryz.func10 (by kernel_rfl)
    (of_decide_eq_true (by kernel_rfl)) (by unfold Func.isWrapper; first | (rw [if_pos (by decide +kernel)]; kernel_rfl) | (rw [if_neg (by decide +kernel)]; exact ⟨rfl, rfl⟩))
    (fun os started H enc _ F => by rw [OpenClaim.pre_eq_preRow]; exact lifted os started H enc F)
theorem plain (f : FuncId) (fn : Func) (hf : Tryz.pinned.checked.prog.funcNamed "notary/notarylaw08.SegmentMemory" = some f) (hfn : Tryz.pinned.checked.prog.funcs[f]? = some fn) :
    true = Tryz.pinned.checked.prog.looks [] ∧ ∀ (j : Nat) t, fn.params[j]? = some t → Tryz.pinned.checked.prog.wantsStandIn t = false := by
  obtain rfl : f = 10 := Option.some.inj ((show Tryz.prog.funcNamed "notary/notarylaw08.SegmentMemory" = some 10 by kernel_rfl).symm.trans hf) |>.symm
  obtain rfl : fn = Tryz.f10 := (Option.some.inj (Tryz.func10.symm.trans hfn)).symm
  refine ⟨by kernel_rfl, fun j t ht => ?_⟩
  rw [Tryz.params10] at ht
  have hm := Array.mem_of_getElem? ht
  have hall : ((Tryz.f10.params).all fun u => !Tryz.prog.wantsStandIn u) = true := by kernel_rfl
  rw [Tryz.params10] at hall
  rw [Array.all_eq_true_iff_forall_mem] at hall
  exact (show Tryz.prog.wantsStandIn t = false by simpa using hall t hm)
theorem card : Rows.SegmentMemoryUptoCardSaid :=
  Claim7.holds_tied_plain_at .later [] _ _ _ _ over (fun _ h => by cases h) (by kernel_rfl) (fun _ h => by cases h) segmentMemoryUpto_row_tie rfl ⟨rfl, rfl⟩ (by kernel_rfl) rfl plain (by kernel_rfl)
end Go.Proofs.YtpmnnnbkbcpgjaaGreatDoor.segmentMemory
namespace Go.Proofs.YtpmnnnbkbcpgjaaGreatDoor
/-- The row, under a short name, for the claim. -/
theorem segmentMemoryUpto_holds : Rows.SegmentMemoryUptoCardSaid := segmentMemory.card
#print axioms segmentMemoryUpto_holds
end Go.Proofs.YtpmnnnbkbcpgjaaGreatDoor
