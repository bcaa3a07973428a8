import Derived.Test.YtpmnnnbkbcpgjaaGreatDoorQSegLaid
/- The walk of notarylaw08.begins, where the segment holds the first k batches. -/
namespace Go.Proofs.YtpmnnnbkbcpgjaaGreatDoor
open Go.RowKit
attribute [local go_sem ↓] Go.wp_at_zero Go.wp_at_succ

set_option maxHeartbeats 800000 in
set_option maxRecDepth 100000 in
theorem begins_calls (N E F X U : Int) (k n n3 : Nat) (A A' A3 : Option Addr) (c c' c3 : Nat) (bs ds : List BvV) (w : World) (hb : Bats w A bs) (hd : Bats w A' ds) (hn : k = bs.length) (he : bs.map BvV.fst = (ds.map BvV.fst).take k) (hkn : k ≤ n) (hnd : n = ds.length) (hl : k ≤ 9223372036854775807) (hle : ∀ b ∈ bs, b.es.length ≤ 9223372036854775807)
    (a3 : Addr) (h3 : A3 = some a3) (hU : w.cell? (a3.add k) = some (.int .i64 U)) (hk3 : k < n3) :
    Calls Tryz.prog 29 #[.agg #[.int .u64 N, .int .u64 E, .int .u64 F, .int .i64 X, .slice A k c, .int .i64 U], .agg #[.int .u64 N, .int .u64 E, .int .u64 F, .int .i64 X], .slice A' n c', .int .i64 k, .slice A3 n3 c3] w fun r w' => r = .returned (.bool true) ∧ Below w.heap.size w w' := by
  subst h3
  have R0 := Row.fresh w w.heap.size rfl 51 [.int .u64 N, .int .u64 E, .int .u64 F, .int .i64 X, .slice A k c, .int .i64 U] #[.int .u64 N, .int .u64 E, .int .u64 F, .int .i64 X, .slice A k c, .int .i64 U] rfl
  have HB1 := below_alloc1 (Below.refl w.heap.size w) (Nat.le_refl _) (.cells #[.int .u64 N, .int .u64 E, .int .u64 F, .int .i64 X, .slice A k c, .int .i64 U] 51)
  have n0 := Bl.alloc (w.alloc (.cells #[.int .u64 N, .int .u64 E, .int .u64 F, .int .i64 X, .slice A k c, .int .i64 U] 51)) (.cells #[.int .u64 N, .int .u64 E, .int .u64 F, .int .i64 X] 32)
  have R := R0.new n0
  have S := Row.fresh (w.alloc (.cells #[.int .u64 N, .int .u64 E, .int .u64 F, .int .i64 X, .slice A k c, .int .i64 U] 51)) (w.heap.size + 1) (asz _ _).symm 32 [.int .u64 N, .int .u64 E, .int .u64 F, .int .i64 X] #[.int .u64 N, .int .u64 E, .int .u64 F, .int .i64 X] rfl
  have HB := belowA HB1 (.cells #[.int .u64 N, .int .u64 E, .int .u64 F, .int .i64 X] 32)
  have BA := hb.new HB
  have BD := hd.new HB
  have hU2 := (HB.cell (World.block_lt_of_cell? _ _ hU)).trans hU
  have hnu : ((U : Int) != U) = false := by simp
  have hnn : ((k : Int) != k) = false := by simp
  have hE := fun w => run_equalHS w N E F X
  have HN := Lib.hid hn
  have HE := Lib.hid he
  have HND := Lib.hid hnd
  clear R0 n0 hb hd hn he HB1 hU hnd
  obtain ⟨w2, h2⟩ : ∃ x, x = ((w.alloc (.cells #[.int .u64 N, .int .u64 E, .int .u64 F, .int .i64 X, .slice A k c, .int .i64 U] 51)).alloc (.cells #[.int .u64 N, .int .u64 E, .int .u64 F, .int .i64 X] 32)) := ⟨_, rfl⟩
  rw [← h2] at R S HB BA BD hU2
  have x0 := R.c 0 _ rfl
  have x1 := R.c 1 _ rfl
  have x2 := R.c 2 _ rfl
  have x3 := R.c 3 _ rfl
  have x4 := R.c 4 _ rfl
  have x5 := R.c 5 _ rfl
  have y0 := S.c 0 _ rfl
  have y1 := S.c 1 _ rfl
  have y2 := S.c 2 _ rfl
  have y3 := S.c 3 _ rfl
  have R := Lib.hid (R.new (Bl.drew _))
  have S := Lib.hid (S.new (Bl.drew _))
  have HB := Lib.hid HB.drew
  have BA := Lib.hid (BA.new (Bl.drew _))
  have BD := Lib.hid (BD.new (Bl.drew _))
  go_enter Tryz.func29, Tryz.ntmps29
  go_wp2
  rw [← h2]
  clear h2
  refine wp_region_noPanic ?_
  go_region
  all_goals refine NoPanic.normal ?_
  clear hE hnu hnn x0 x1 x2 x3 x5 y0 y1 y2 y3 S hU2
  go_wp2
  go_loopw [11] (fun iv wr => ∃ j : Nat, j ≤ k ∧ iv = .int .i64 j ∧ Below w2.drew.heap.size w2.drew wr) (fun iv _ => k - (intOf iv).toNat)
  case atStart => exact ⟨0, Nat.zero_le _, rfl, Below.refl _ _⟩
  case round =>
    obtain ⟨j, hj, rfl, HBB⟩ := hrel
    have R2 := R.out.new HBB
    have x4 := R2.c 4 _ rfl
    by_cases hlt : j < k
    · obtain ⟨a, b, rfl, hb, hbm, hbe, k0, k1⟩ := (BA.out.new HBB).at_ j (by rw [← HN.out]; exact hlt)
      obtain ⟨a', d, rfl, hd, hdm, hde, l0, l1⟩ := (BD.out.new HBB).at_ j (by rw [← HND.out]; omega)
      have hbd : b.fst = d.fst := by
        have h1 : (bs.map BvV.fst)[j]? = some b.fst := by rw [List.getElem?_map, hb]; rfl
        have h2 : ((ds.map BvV.fst).take k)[j]? = some d.fst := by rw [List.getElem?_take, if_pos hlt, List.getElem?_map, hd]; rfl
        rw [HE.out, h2] at h1; exact (Option.some.inj h1).symm
      have hlen : b.es.length ≤ 9223372036854775807 := hle b hbm
      obtain ⟨bf, bA, bc, bes⟩ := b
      obtain ⟨df, dA, dc, des⟩ := d
      obtain ⟨e1, e2⟩ := Prod.mk.inj hbd
      simp only at e1
      subst e1
      have e3 : des.length = bes.length := by have := congrArg List.length e2; simpa [ensOf] using this.symm
      simp only [e3] at l1
      clear hb hd hbm hdm hbd
      simp only at k0 k1 l0 l1 hbe hde hlen
      have e2 := Lib.hid e2
      have e3 := Lib.hid e3
      have hbe := Lib.hid (hbe.new (Bl.drew _))
      have hde := Lib.hid (hde.new (Bl.drew _))
      have R2 := Lib.hid (R2.new (Bl.drew _))
      have hjn : j < n := by omega
      have k1 : wr.cell? ⟨(a.add (j * 2)).block, (a.add (j * 2)).off + 1, none⟩ = some (.slice bA bes.length bc) := by rw [← addr_succ]; exact k1
      have l1 : wr.cell? ⟨(a'.add (j * 2)).block, (a'.add (j * 2)).off + 1, none⟩ = some (.slice dA bes.length dc) := by rw [← addr_succ]; exact l1
      go_wp2
      go_region_held3 (fun w' => w'.cell? ⟨w.heap.size, 4, none⟩ = some (.slice (some a) k c) ∧ w'.cell? (a.add (j * 2)) = some (.int .u64 bf) ∧ w'.cell? ⟨(a.add (j * 2)).block, (a.add (j * 2)).off + 1, none⟩ = some (.slice bA bes.length bc) ∧ w'.cell? (a'.add (j * 2)) = some (.int .u64 bf) ∧ w'.cell? ⟨(a'.add (j * 2)).block, (a'.add (j * 2)).off + 1, none⟩ = some (.slice dA bes.length dc)) (go_keep) (first
        | (go_at_call 31; go_loud (with_reducible refine (sameB_calls bf bA dA bes des _ _ bc dc rfl rfl _ hbe.out hde.out e2.out hlen).mono ?_); rintro r5 w5 ⟨rfl, hb5⟩; have R5 := R2.out.new hb5; have z4 := R5.c 4 _ rfl; have z0 := (hb5.cell (World.block_lt_of_cell? _ _ k0)).trans k0; have z1 := (hb5.cell (World.block_lt_of_cell? _ _ k1)).trans k1; have v0 := (hb5.cell (World.block_lt_of_cell? _ _ l0)).trans l0; have v1 := (hb5.cell (World.block_lt_of_cell? _ _ l1)).trans l1))
      go_wp2
      go_roundw
      case rel => exact ⟨j + 1, by omega, by go_num, below_then HBB.drew hb5⟩
      case measure => simp [intOf]; omega
    · obtain rfl : j = k := by omega
      clear hlt
      go_wp2
      go_ret
      exact ⟨rfl, below_then HB.out HBB⟩
end Go.Proofs.YtpmnnnbkbcpgjaaGreatDoor
