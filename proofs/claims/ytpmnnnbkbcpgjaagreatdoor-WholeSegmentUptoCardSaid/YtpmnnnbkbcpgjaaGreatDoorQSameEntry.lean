import Derived.Test.YtpmnnnbkbcpgjaaGreatDoorQBc
import Derived.Deep.RegionLaw
import Derived.Deep.DrawnRows
/- Comparing entries, lists of them, and batches that are alike. -/
namespace Go.Proofs.YtpmnnnbkbcpgjaaGreatDoor
open Go.RowKit
open WireMath (numS beN rawS blobS uvarS grpL uvarL wideL)
attribute [local go_sem ↓] Go.wp_at_zero Go.wp_at_succ

set_option maxRecDepth 100000 in
theorem sameE_calls (e : En) (a d : EnA) (n m n' m' : Nat) (hn : n = e.K.length) (hm : m = e.V.length) (hn' : n' = e.K.length) (hm' : m' = e.V.length) (w : World) (ha : EnOk w e a) (hd : EnOk w e d) :
    Calls Tryz.prog 116 #[.agg #[.int .u8 e.k, .slice a.KA n a.kc, .slice a.VA m a.vc], .agg #[.int .u8 e.k, .slice d.KA n' d.kc, .slice d.VA m' d.vc]] w fun r w' => r = .returned (.bool true) ∧ Below w.heap.size w w' := by
  subst hn; subst hm; subst hn'; subst hm'
  have HB0 := Lib.hid (below_alloc1 (Below.refl w.heap.size w) (Nat.le_refl _) (.cells #[.int .u8 e.k, .slice a.KA e.K.length a.kc, .slice a.VA e.V.length a.vc] 72))
  have HB := Lib.hid (belowA HB0.out (.cells #[.int .u8 e.k, .slice d.KA e.K.length d.kc, .slice d.VA e.V.length d.vc] 72))
  have HT := Lib.hid ((Trio.fresh w w.heap.size rfl (.int .u8 e.k) (.slice a.KA e.K.length a.kc) (.slice a.VA e.V.length a.vc) 72).new (below_alloc1 (Below.refl _ _) (Nat.le_refl _) (.cells #[.int .u8 e.k, .slice d.KA e.K.length d.kc, .slice d.VA e.V.length d.vc] 72)))
  have HS := Lib.hid (Trio.fresh (w.alloc (.cells #[.int .u8 e.k, .slice a.KA e.K.length a.kc, .slice a.VA e.V.length a.vc] 72)) (w.heap.size + 1) (asz _ _) (.int .u8 e.k) (.slice d.KA e.K.length d.kc) (.slice d.VA e.V.length d.vc) 72)
  have HKK := Lib.hid (beq_self_eq_true e.K)
  have HVV := Lib.hid (beq_self_eq_true e.V)
  have hkk : ((e.k : Int) == e.k) = true := beq_self_eq_true _
  have HA := Lib.hid (ha.new HB.out)
  have HD := Lib.hid (hd.new HB.out)
  have x0 := HT.out.c0
  have x1 := HT.out.c1
  have x2 := HT.out.c2
  have y0 := HS.out.c0
  have y1 := HS.out.c1
  have y2 := HS.out.c2
  go_enter Tryz.func116, Tryz.ntmps116
  go_wp2_with (first
    | (go_at_call 23; (with_reducible refine (sameR a.KA d.KA e.K e.K _ _ a.kc d.kc _ HA.out.K HD.out.K rfl rfl true HKK.out).mono ?_); rintro e3 w3 ⟨rfl, hd3⟩; have T3 := HT.out.new (hd3.below _); have S3 := HS.out.new (hd3.below _); have z2 := T3.c2; have u2 := S3.c2)
    | (go_at_call 23; (with_reducible refine (sameR a.VA d.VA e.V e.V _ _ a.vc d.vc _ (HA.out.V.new (hd3.below _)) (HD.out.V.new (hd3.below _)) rfl rfl true HVV.out).mono ?_); rintro e4 w4 ⟨rfl, hd4⟩))
  go_ret
  exact ⟨rfl, below_then (below_then HB.out (hd3.below _)) (hd4.below _)⟩

set_option maxRecDepth 100000 in
theorem sameEs_calls (A D : Option Addr) (es ds : List EnX) (n n' c c' : Nat) (hn : n = es.length) (hn' : n' = es.length) (w : World) (ha : Ents w A es) (hd : Ents w D ds) (he : ensOf es = ensOf ds) (hl : n ≤ 9223372036854775807) :
    Calls Tryz.prog 62 #[.slice A n c, .slice D n' c'] w fun r w' => r = .returned (.bool true) ∧ Below w.heap.size w w' := by
  have hdl : ds.length = es.length := by have := congrArg List.length he; simpa [ensOf] using this.symm
  have hnn : n' = n := by omega
  subst hnn
  have HN := Lib.hid hn
  have HE := Lib.hid he
  have HDL := Lib.hid hdl
  clear hn hn' he hdl
  go_enter Tryz.func62, Tryz.ntmps62
  go_wp2
  go_loopw [5] (fun iv wr => ∃ j : Nat, j ≤ n' ∧ iv = .int .i64 j ∧ Below w.heap.size w wr) (fun iv _ => n' - (intOf iv).toNat)
  case atStart => exact ⟨0, Nat.zero_le _, rfl, Below.refl _ _⟩
  case round =>
    obtain ⟨j, hj, rfl, HBB⟩ := hrel
    by_cases hlt : j < n'
    · obtain ⟨a, o, x, rfl, ho, hmem, hok, k0, k1, k2⟩ := (ha.new HBB).at_ j (by rw [← HN.out]; exact hlt)
      obtain ⟨b, o', y, rfl, ho', hmem', hok', l0, l1, l2⟩ := (hd.new HBB).at_ j (by rw [HDL.out, ← HN.out]; exact hlt)
      have hoo : o' = o := by
        have h1 : (ensOf es)[j]? = some o := by unfold ensOf; rw [List.getElem?_map, ho]; rfl
        have h2 : (ensOf ds)[j]? = some o' := by unfold ensOf; rw [List.getElem?_map, ho']; rfl
        rw [HE.out, h2] at h1; exact Option.some.inj h1
      subst hoo
      clear ho ho'
      go_wp2
      refine wp_region_noPanic ?_
      go_region_law ((go_simp; go_at_call 116; refine (sameE_calls o' x y _ _ _ _ rfl rfl rfl rfl _ (hok.new (below_drew _ _)) (hok'.new (below_drew _ _))).mono ?_; rintro r5 w5 ⟨rfl, hb5⟩))
      all_goals refine NoPanic.normal ?_
      all_goals
        go_wp2
        go_roundw
        case rel => exact ⟨j + 1, by omega, by go_num, below_then HBB.drew hb5⟩
        case measure => simp [intOf]; omega
    · obtain rfl : j = n' := by omega
      clear hlt
      go_wp2
      go_ret
      exact ⟨rfl, HBB⟩
set_option maxRecDepth 100000 in
theorem sameB_calls (f : Nat) (A D : Option Addr) (es ds : List EnX) (n n' c c' : Nat) (hn : n = es.length) (hn' : n' = es.length) (w : World) (ha : Ents w A es) (hd : Ents w D ds) (he : ensOf es = ensOf ds) (hl : n ≤ 9223372036854775807) :
    Calls Tryz.prog 31 #[.agg #[.int .u64 f, .slice A n c], .agg #[.int .u64 f, .slice D n' c']] w fun r w' => r = .returned (.bool true) ∧ Below w.heap.size w w' := by
  subst hn; subst hn'
  have HB0 := Lib.hid (below_alloc1 (Below.refl w.heap.size w) (Nat.le_refl _) (.cells #[.int .u64 f, .slice A es.length c] 35))
  have HB := Lib.hid (belowA HB0.out (.cells #[.int .u64 f, .slice D es.length c'] 35))
  have HT := Lib.hid ((Duo.fresh w w.heap.size rfl (.int .u64 f) (.slice A es.length c) 35).new (below_alloc1 (Below.refl _ _) (Nat.le_refl _) (.cells #[.int .u64 f, .slice D es.length c'] 35)))
  have HS := Lib.hid (Duo.fresh (w.alloc (.cells #[.int .u64 f, .slice A es.length c] 35)) (w.heap.size + 1) (asz _ _) (.int .u64 f) (.slice D es.length c') 35)
  have hff : ((f : Int) == f) = true := beq_self_eq_true _
  have x0 := HT.out.c0
  have x1 := HT.out.c1
  have y0 := HS.out.c0
  have y1 := HS.out.c1
  go_enter Tryz.func31, Tryz.ntmps31
  go_wp2_with (go_at_call 62; go_loud (with_reducible refine (sameEs_calls A D es ds _ _ c c' rfl rfl _ (ha.new HB.out) (hd.new HB.out) he hl).mono ?_); rintro e3 w3 ⟨rfl, hb3⟩)
  go_ret
  exact ⟨rfl, below_then HB.out hb3⟩
end Go.Proofs.YtpmnnnbkbcpgjaaGreatDoor
