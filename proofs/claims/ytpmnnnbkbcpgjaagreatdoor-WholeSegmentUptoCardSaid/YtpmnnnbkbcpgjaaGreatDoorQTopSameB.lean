import Derived.Test.YtpmnnnbkbcpgjaaGreatDoorQTopBatch
/- The walk of notarytop.sameBatch, where the two are alike. -/
namespace Go.Proofs.YtpmnnnbkbcpgjaaGreatDoor
open Go.RowKit
attribute [local go_sem ↓] Go.wp_at_zero Go.wp_at_succ

set_option maxHeartbeats 800000 in
set_option maxRecDepth 100000 in
theorem topsameB_calls (f : Nat) (A D : Option Addr) (es ds : List EnX) (n c c' : Nat) (hn : n = es.length) (hn' : n = ds.length) (w : World) (ha : Ents w A es) (hd : Ents w D ds) (he : ensOf es = ensOf ds) (hl : n ≤ 9223372036854775807) :
    Calls Tryz.prog 40 #[.agg #[.int .u64 f, .slice A n c], .agg #[.int .u64 f, .slice D n c']] w fun r w' => r = .returned (.bool true) ∧ Below w.heap.size w w' := by
  have HB0 := below_alloc1 (Below.refl w.heap.size w) (Nat.le_refl _) (.cells #[.int .u64 f, .slice A n c] 35)
  have HB1 := belowA HB0 (.cells #[.int .u64 f, .slice D n c'] 35)
  have HT1 := (Duo.fresh w w.heap.size rfl (.int .u64 f) (.slice A n c) 35).new (Bl.alloc _ (.cells #[.int .u64 f, .slice D n c'] 35))
  have HS1 := Duo.fresh (w.alloc (.cells #[.int .u64 f, .slice A n c] 35)) (w.heap.size + 1) (asz _ _) (.int .u64 f) (.slice D n c') 35
  obtain ⟨w2, h2⟩ : ∃ x, x = ((w.alloc (.cells #[.int .u64 f, .slice A n c] 35)).alloc (.cells #[.int .u64 f, .slice D n c'] 35)) := ⟨_, rfl⟩
  rw [← h2] at HB1 HT1 HS1
  have hff : ((f : Int) != f) = false := bne_self_eq_false _
  have hnn : ((n : Int) != n) = false := bne_self_eq_false _
  have x0 := HT1.c0
  have x1 := HT1.c1
  have y0 := HS1.c0
  have y1 := HS1.c1
  have HB := Lib.hid HB1
  have HT := Lib.hid HT1
  have HS := Lib.hid HS1
  have HN := Lib.hid hn
  have HN' := Lib.hid hn'
  have HE := Lib.hid he
  have HA := Lib.hid (ha.new HB1)
  have HD := Lib.hid (hd.new HB1)
  clear hn hn' he HB0 HB1 HT1 HS1 ha hd
  go_enter Tryz.func40, Tryz.ntmps40
  go_wp2
  rw [← h2]
  clear h2
  go_wp2
  go_loopw [5] (fun iv wr => ∃ j : Nat, j ≤ n ∧ iv = .int .i64 j ∧ Below w2.heap.size w2 wr) (fun iv _ => n - (intOf iv).toNat)
  case atStart => exact ⟨0, Nat.zero_le _, rfl, Below.refl _ _⟩
  case round =>
    obtain ⟨j, hj, rfl, HBB⟩ := hrel
    have T2 := HT.out.new HBB
    have S2 := HS.out.new HBB
    have x1 := T2.c1
    have y1 := S2.c1
    by_cases hlt : j < n
    · obtain ⟨a, o, x, rfl, ho, hmem, hok, k0, k1, k2⟩ := (HA.out.new HBB).at_ j (by rw [← HN.out]; exact hlt)
      obtain ⟨b, o', y, rfl, ho', hmem', hok', l0, l1, l2⟩ := (HD.out.new HBB).at_ j (by rw [← HN'.out]; exact hlt)
      have hoo : o' = o := by
        have h1 : (ensOf es)[j]? = some o := by unfold ensOf; rw [List.getElem?_map, ho]; rfl
        have h2 : (ensOf ds)[j]? = some o' := by unfold ensOf; rw [List.getElem?_map, ho']; rfl
        rw [HE.out, h2] at h1; exact Option.some.inj h1
      subst hoo
      have T2 := Lib.hid (T2.new (Bl.drew _))
      have S2 := Lib.hid (S2.new (Bl.drew _))
      have HO := Lib.hid (hok.new (Bl.drew _))
      have HO' := Lib.hid (hok'.new (Bl.drew _))
      clear ho ho' hmem hmem' hok hok' x0 y0
      go_wp2
      go_region_held3 (fun w' => w'.cell? ⟨w.heap.size, 1, none⟩ = some (.slice (some a) n c) ∧ w'.cell? ⟨w.heap.size + 1, 1, none⟩ = some (.slice (some b) n c') ∧ w'.cell? (a.add (j * 3)) = some (.int .u8 o'.k) ∧ w'.cell? ⟨(a.add (j * 3)).block, (a.add (j * 3)).off + 1, none⟩ = some (.slice x.KA o'.K.length x.kc) ∧ w'.cell? ⟨(a.add (j * 3)).block, (a.add (j * 3)).off + 2, none⟩ = some (.slice x.VA o'.V.length x.vc) ∧ w'.cell? (b.add (j * 3)) = some (.int .u8 o'.k) ∧ w'.cell? ⟨(b.add (j * 3)).block, (b.add (j * 3)).off + 1, none⟩ = some (.slice y.KA o'.K.length y.kc) ∧ w'.cell? ⟨(b.add (j * 3)).block, (b.add (j * 3)).off + 2, none⟩ = some (.slice y.VA o'.V.length y.vc)) (go_keep) (first
        | (go_at_call 68; go_loud (with_reducible refine (topsameE_calls o' x y _ _ _ _ rfl rfl rfl rfl _ HO.out HO'.out).mono ?_); rintro r5 w5 ⟨rfl, hb5⟩; have d1 := (T2.out.new hb5).c1; have e1 := (S2.out.new hb5).c1; have z0 := (hb5.cell (World.block_lt_of_cell? _ _ k0)).trans k0; have z1 := (hb5.cell (World.block_lt_of_cell? _ _ k1)).trans k1; have z2 := (hb5.cell (World.block_lt_of_cell? _ _ k2)).trans k2; have v0 := (hb5.cell (World.block_lt_of_cell? _ _ l0)).trans l0; have v1 := (hb5.cell (World.block_lt_of_cell? _ _ l1)).trans l1; have v2 := (hb5.cell (World.block_lt_of_cell? _ _ l2)).trans l2))
      go_wp2
      go_roundw
      case rel => exact ⟨j + 1, by omega, by go_num, below_then HBB.drew hb5⟩
      case measure => simp [intOf]; omega
    · obtain rfl : j = n := by omega
      clear hlt
      go_wp2
      go_ret
      exact ⟨rfl, below_then HB.out HBB⟩
end Go.Proofs.YtpmnnnbkbcpgjaaGreatDoor
