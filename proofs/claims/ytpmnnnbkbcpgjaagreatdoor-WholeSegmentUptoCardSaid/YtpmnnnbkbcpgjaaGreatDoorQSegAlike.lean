import Derived.Test.YtpmnnnbkbcpgjaaGreatDoorQSegView
import Derived.Test.YtpmnnnbkbcpgjaaGreatDoorQSegDoc
import Derived.Test.YtpmnnnbkbcpgjaaGreatDoorQSameEntry
import Derived.Deep.RegionHeld2
/- The walk of notarylaw08.alike, where both answers are the same. -/
namespace Go.Proofs.YtpmnnnbkbcpgjaaGreatDoor
open Go.RowKit
attribute [local go_sem ↓] Go.wp_at_zero Go.wp_at_succ

set_option maxHeartbeats 800000 in
set_option maxRecDepth 100000 in
theorem alike_calls (N E F X U e : Int) (n : Nat) (A A' : Option Addr) (c c' : Nat) (bs ds : List BvV) (w : World) (hb : Bats w A bs) (hd : Bats w A' ds) (hn : n = bs.length) (he : bs.map BvV.fst = ds.map BvV.fst) (hl : n ≤ 9223372036854775807) (hle : ∀ b ∈ bs, b.es.length ≤ 9223372036854775807) :
    Calls Tryz.prog 27 #[.agg #[.int .u64 N, .int .u64 E, .int .u64 F, .int .i64 X, .slice A n c, .int .i64 U], .int .i64 e, .agg #[.int .u64 N, .int .u64 E, .int .u64 F, .int .i64 X, .slice A' n c', .int .i64 U], .int .i64 e] w fun r w' => r = .returned (.bool true) ∧ Below w.heap.size w w' := by
  have R0 := Row.fresh w w.heap.size rfl 51 [.int .u64 N, .int .u64 E, .int .u64 F, .int .i64 X, .slice A n c, .int .i64 U] #[.int .u64 N, .int .u64 E, .int .u64 F, .int .i64 X, .slice A n c, .int .i64 U] rfl
  have HB1 := below_alloc1 (Below.refl w.heap.size w) (Nat.le_refl _) (.cells #[.int .u64 N, .int .u64 E, .int .u64 F, .int .i64 X, .slice A n c, .int .i64 U] 51)
  have n0 := Bl.alloc (w.alloc (.cells #[.int .u64 N, .int .u64 E, .int .u64 F, .int .i64 X, .slice A n c, .int .i64 U] 51)) (.cells #[.int .u64 N, .int .u64 E, .int .u64 F, .int .i64 X, .slice A' n c', .int .i64 U] 56)
  have R := R0.new n0
  have S := Row.fresh (w.alloc (.cells #[.int .u64 N, .int .u64 E, .int .u64 F, .int .i64 X, .slice A n c, .int .i64 U] 51)) (w.heap.size + 1) (asz _ _).symm 56 [.int .u64 N, .int .u64 E, .int .u64 F, .int .i64 X, .slice A' n c', .int .i64 U] #[.int .u64 N, .int .u64 E, .int .u64 F, .int .i64 X, .slice A' n c', .int .i64 U] rfl
  have HB := belowA HB1 (.cells #[.int .u64 N, .int .u64 E, .int .u64 F, .int .i64 X, .slice A' n c', .int .i64 U] 56)
  have BA := hb.new HB
  have BD := hd.new HB
  have hne : ((e : Int) != e) = false := by simp
  have hnu : ((U : Int) != U) = false := by simp
  have hnn : ((n : Int) != n) = false := by simp
  have hE := fun w => run_equalHD w N E F X
  have HN := Lib.hid hn
  have HE := Lib.hid he
  clear R0 n0 hb hd hn he HB1
  obtain ⟨w2, h2⟩ : ∃ x, x = ((w.alloc (.cells #[.int .u64 N, .int .u64 E, .int .u64 F, .int .i64 X, .slice A n c, .int .i64 U] 51)).alloc (.cells #[.int .u64 N, .int .u64 E, .int .u64 F, .int .i64 X, .slice A' n c', .int .i64 U] 56)) := ⟨_, rfl⟩
  rw [← h2] at R S HB BA BD
  have x0 := R.c 0 _ rfl
  have x1 := R.c 1 _ rfl
  have x2 := R.c 2 _ rfl
  have x3 := R.c 3 _ rfl
  have x4 := R.c 4 _ rfl
  have x5 := R.c 5 _ rfl
  have y0 := S.c 0 _ rfl
  have y1 := S.c 1 _ rfl
  have y2 := S.c 2 _ rfl
  have y3 := S.c 3 _ rfl
  have y4 := S.c 4 _ rfl
  have y5 := S.c 5 _ rfl
  have R := Lib.hid (R.new (Bl.drew _))
  have S := Lib.hid (S.new (Bl.drew _))
  have HB := Lib.hid HB.drew
  have BA := Lib.hid (BA.new (Bl.drew _))
  have BD := Lib.hid (BD.new (Bl.drew _))
  go_enter Tryz.func27, Tryz.ntmps27
  go_wp2
  rw [← h2]
  clear h2
  go_region_held3 (fun w' => w'.cell? ⟨w.heap.size, 0, none⟩ = some (.int .u64 N) ∧ w'.cell? ⟨w.heap.size, 1, none⟩ = some (.int .u64 E) ∧ w'.cell? ⟨w.heap.size, 2, none⟩ = some (.int .u64 F) ∧ w'.cell? ⟨w.heap.size, 3, none⟩ = some (.int .i64 X) ∧ w'.cell? ⟨w.heap.size, 4, none⟩ = some (.slice A n c) ∧ w'.cell? ⟨w.heap.size, 5, none⟩ = some (.int .i64 U) ∧ w'.cell? ⟨w.heap.size + 1, 0, none⟩ = some (.int .u64 N) ∧ w'.cell? ⟨w.heap.size + 1, 1, none⟩ = some (.int .u64 E) ∧ w'.cell? ⟨w.heap.size + 1, 2, none⟩ = some (.int .u64 F) ∧ w'.cell? ⟨w.heap.size + 1, 3, none⟩ = some (.int .i64 X) ∧ w'.cell? ⟨w.heap.size + 1, 4, none⟩ = some (.slice A' n c') ∧ w'.cell? ⟨w.heap.size + 1, 5, none⟩ = some (.int .i64 U)) (go_keep) (first
    | (go_at_call 19; go_loud (with_reducible refine (doc_calls N E F X _).mono ?_); rintro r1 w1 ⟨rfl, hb1⟩; have R1 := R.out.new hb1; have S1 := S.out.new hb1; have x0 := R1.c 0 _ rfl; have x1 := R1.c 1 _ rfl; have x2 := R1.c 2 _ rfl; have x3 := R1.c 3 _ rfl; have x4 := R1.c 4 _ rfl; have x5 := R1.c 5 _ rfl; have y0 := S1.c 0 _ rfl; have y1 := S1.c 1 _ rfl; have y2 := S1.c 2 _ rfl; have y3 := S1.c 3 _ rfl; have y4 := S1.c 4 _ rfl; have y5 := S1.c 5 _ rfl))
  have B1 := Lib.hid (below_then HB.out hb1)
  have BA1 := Lib.hid (BA.out.new hb1)
  have BD1 := Lib.hid (BD.out.new hb1)
  have R1 := Lib.hid R1
  have S1 := Lib.hid S1
  clear hE hne hnu hnn x0 x1 x2 x3 x5 y0 y1 y2 y3 y4 y5 R S HB BA BD
  go_wp2
  go_loopw [9] (fun iv wr => ∃ j : Nat, j ≤ n ∧ iv = .int .i64 j ∧ Below w1.heap.size w1 wr) (fun iv _ => n - (intOf iv).toNat)
  case atStart => exact ⟨0, Nat.zero_le _, rfl, Below.refl _ _⟩
  case round =>
    obtain ⟨j, hj, rfl, HBB⟩ := hrel
    have R2 := R1.out.new HBB
    have S2 := S1.out.new HBB
    have x4 := R2.c 4 _ rfl
    have y4 := S2.c 4 _ rfl
    by_cases hlt : j < n
    · obtain ⟨a, b, rfl, hb, hbm, hbe, k0, k1⟩ := (BA1.out.new HBB).at_ j (by rw [← HN.out]; exact hlt)
      obtain ⟨a', d, rfl, hd, hdm, hde, l0, l1⟩ := (BD1.out.new HBB).at_ j (by have := congrArg List.length HE.out; rw [List.length_map, List.length_map] at this; rw [← this, ← HN.out]; exact hlt)
      have hbd : b.fst = d.fst := by
        have h1 : (bs.map BvV.fst)[j]? = some b.fst := by rw [List.getElem?_map, hb]; rfl
        have h2 : (ds.map BvV.fst)[j]? = some d.fst := by rw [List.getElem?_map, hd]; rfl
        rw [HE.out, h2] at h1; exact (Option.some.inj h1).symm
      have hlen : b.es.length ≤ 9223372036854775807 := hle b hbm
      obtain ⟨bf, bA, bc, bes⟩ := b
      obtain ⟨df, dA, dc, des⟩ := d
      obtain ⟨e1, e2⟩ := Prod.mk.inj hbd
      simp only at e1
      subst e1
      have e3 : des.length = bes.length := by have := congrArg List.length e2; simpa [ensOf] using this.symm
      simp only [e3] at l1
      clear hb hd hbm hdm hbd
      simp only at k0 k1 l0 l1 hbe hde hlen
      have e2 := Lib.hid e2
      have e3 := Lib.hid e3
      have hbe := Lib.hid (hbe.new (Bl.drew _))
      have hde := Lib.hid (hde.new (Bl.drew _))
      have R2 := Lib.hid (R2.new (Bl.drew _))
      have S2 := Lib.hid (S2.new (Bl.drew _))
      have k1 : wr.cell? ⟨(a.add (j * 2)).block, (a.add (j * 2)).off + 1, none⟩ = some (.slice bA bes.length bc) := by rw [← addr_succ]; exact k1
      have l1 : wr.cell? ⟨(a'.add (j * 2)).block, (a'.add (j * 2)).off + 1, none⟩ = some (.slice dA bes.length dc) := by rw [← addr_succ]; exact l1
      go_wp2
      go_region_held3 (fun w' => w'.cell? ⟨w.heap.size, 4, none⟩ = some (.slice (some a) n c) ∧ w'.cell? ⟨w.heap.size + 1, 4, none⟩ = some (.slice (some a') n c') ∧ w'.cell? (a.add (j * 2)) = some (.int .u64 bf) ∧ w'.cell? ⟨(a.add (j * 2)).block, (a.add (j * 2)).off + 1, none⟩ = some (.slice bA bes.length bc) ∧ w'.cell? (a'.add (j * 2)) = some (.int .u64 bf) ∧ w'.cell? ⟨(a'.add (j * 2)).block, (a'.add (j * 2)).off + 1, none⟩ = some (.slice dA bes.length dc)) (go_keep) (first
        | (go_at_call 31; go_loud (with_reducible refine (sameB_calls bf bA dA bes des _ _ bc dc rfl rfl _ hbe.out hde.out e2.out hlen).mono ?_); rintro r5 w5 ⟨rfl, hb5⟩; have R5 := R2.out.new hb5; have S5 := S2.out.new hb5; have z4 := R5.c 4 _ rfl; have u4 := S5.c 4 _ rfl; have z0 := (hb5.cell (World.block_lt_of_cell? _ _ k0)).trans k0; have z1 := (hb5.cell (World.block_lt_of_cell? _ _ k1)).trans k1; have v0 := (hb5.cell (World.block_lt_of_cell? _ _ l0)).trans l0; have v1 := (hb5.cell (World.block_lt_of_cell? _ _ l1)).trans l1))
      go_wp2
      go_roundw
      case rel => exact ⟨j + 1, by omega, by go_num, below_then HBB.drew hb5⟩
      case measure => simp [intOf]; omega
    · obtain rfl : j = n := by omega
      clear hlt
      go_wp2
      go_ret
      exact ⟨rfl, below_then B1.out HBB⟩
end Go.Proofs.YtpmnnnbkbcpgjaaGreatDoor
