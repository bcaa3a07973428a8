/- Layer 5: digest.cut, digest.Form. -/
import Derived.Test.YtelecdncdaepnaaRootMem
import Derived.Test.YtelecdncdaepnaaRootWords
import Derived.Deep.RegionHeld3
import Derived.Deep.RegionLaw
import Derived.Deep.DrawnRows
namespace Go.Proofs.Ytelecdncdaepnaa
open Go.RowKit
attribute [local go_sem ↓] Go.wp_at_zero Go.wp_at_succ

theorem dcut_calls (k : Nat) (K : Int) (hK : K = k) (hk : k ≤ 32) (d : List UInt8) (hd : d.length = 32) (w : World) : Calls Try.prog 101 #[.int .i64 K, .agg (rB d)] w fun r w' => r = .returned (.agg (rB (d.take k ++ List.replicate (32 - k) 0))) ∧ Below w.heap.size w w' := by
  subst hK
  obtain ⟨cs, hcs⟩ : ∃ cs, cs = rB d := ⟨_, rfl⟩
  rw [← hcs]
  have hc : cs.size = 32 := by rw [hcs, rB_size, hd]
  have HC2 := Lib.hid (show cs = (encB d).toArray from hcs)
  have HD := Lib.hid hd
  clear hcs hd
  go_enter Try.func101, Try.ntmps101
  go_wp2
  have hcut := fun (w' : World) (A : Addr) => run_cut_arr (P := Try.prog) w' 61 5 32 Try.underlying61 (by kernel_rfl) A .i64 k k rfl hk
  refine wp_region_noPanic ?_
  go_region_law (refine step_copy_splice rfl (.tmp 7) (.tmp 9) 24 24 rfl 5 bt.sl (by kernel_rfl) (some ⟨w.heap.size + 1 + 1, 0, none⟩) (some ⟨w.heap.size, 0, none⟩) k 32 k 32 rfl rfl (w.heap.size + 1 + 1) 0 (encB (List.replicate 32 0)) 61 (Row.fresh _ _ (by simp only [szA]) _ _ _ rfl).drew.out (encB (d.take k)) (by rw [encB_length, List.length_take, HD.out]; show min k 32 = min k k; omega) (fun _ => ⟨rfl, _, rfl, ((((Row.fresh w _ rfl _ _ _ HC2.out).alloc _).alloc _).drew.reads [] (encB (d.drop k)) (d.take k) (by rw [List.nil_append, ← encB_append, List.take_append_drop]) 0 32 rfl (by rw [List.length_take, HD.out]; omega) (by decide)).cells⟩) (by simp [encB_length]; omega) (encB_one _) (w.heap.size + 1 + 1) _ (Below.refl _ _) (Nat.le_refl _) ?_; intro w4 hg4 hb4; have HB := Lib.hid ((below_alloc1 (below_alloc1 (below_alloc1 (Below.refl w.heap.size w) (Nat.le_refl _) (.cells cs 61)) (by rw [szA]; omega) (.cells _ 61)) (by simp only [szA]; first | done | omega) (.cells _ 61)).drew.trans (hb4.mono (by omega))); have HR := Lib.hid ((((Row.fresh (w.alloc (.cells cs 61)) (w.heap.size + 1) (by simp only [szA]) 61 (encB (List.replicate 32 0)) _ rfl).alloc (.cells _ 61)).drew.keep hb4 (by omega))))
  all_goals refine NoPanic.normal ?_
  have HSP := Lib.hid (show splice (encB (List.replicate 32 0)) 0 (encB (d.take k)) = encB (d.take k ++ List.replicate (32 - k) 0) by
    have := HD.out
    unfold splice
    rw [List.take_zero, List.nil_append, Nat.zero_add, encB_append, encB_length, List.length_take, this]
    rw [show min k 32 = k by omega, encB_drop, List.drop_replicate])
  have HL := Lib.hid (show (d.take k ++ List.replicate (32 - k) 0).length = 32 by rw [List.length_append, List.length_take, List.length_replicate, HD.out]; omega)
  rw [HSP.out] at hg4
  go_wp2_with (first
    | (refine wp_load_part rfl 61 _ rfl _ rfl (rB (d.take k ++ List.replicate (32 - k) 0)) ((Row.mk hg4.out).part [] [] (encB (d.take k ++ List.replicate (32 - k) 0)) (by simp) 0 rfl _ rfl) _ Try.underlying61 rfl (by rw [rB_size, HL.out]; kernel_rfl) ?_)
    | (refine wp_store_part rfl 61 _ _ rfl (w.heap.size + 1) 0 _ rfl rfl _ _ HR.out.out (by rw [rB_size, HL.out]; kernel_rfl) (by rw [rB_size, HL.out]; simp [encB_length]) (rB_one _) ?_))
  rw [splice_all _ _ (by simp [rB, encB_length]; have := HD.out; omega)]
  exact bodyPost_ret (v := .agg (rB (d.take k ++ List.replicate (32 - k) 0))) (results_cell_row rfl _ _ (w.heap.size + 1) 61 _ (0, 0) _ rfl (setRow_heap _ _ _ _ _ _ HR.out.out) Try.underlying61 rfl (by rw [rB_size, HL.out]; kernel_rfl)) rfl ⟨rfl, below_setRow HB.out (by omega) _⟩
end Go.Proofs.Ytelecdncdaepnaa
