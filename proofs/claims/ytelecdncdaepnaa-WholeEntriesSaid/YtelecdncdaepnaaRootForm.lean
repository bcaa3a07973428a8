/- Layer 5: digest.Form. -/
import Derived.Test.YtelecdncdaepnaaRootCut
import Derived.Deep.MidRow
import Derived.Deep.RegionHeld2
namespace Go.Proofs.Ytelecdncdaepnaa
open Go.RowKit

def padL (k : Nat) (d : List UInt8) : List UInt8 := d.take k ++ List.replicate (32 - k) 0
def formF (n : Int) (d : List UInt8) : Prop := 1 ≤ n ∧ n ≤ 32 ∧ padL n.toNat d = d
instance (n : Int) (d : List UInt8) : Decidable (formF n d) := by unfold formF; exact inferInstance
theorem dcut_calls' (k : Nat) (hk : k ≤ 32) (d : List UInt8) (hd : d.length = 32) (w : World) : Calls Try.prog 101 #[.int .i64 k, .agg (rB d)] w fun r w' => r = .returned (.agg (rB (padL k d))) ∧ Below w.heap.size w w' := dcut_calls k k rfl hk d hd w
theorem padL_length (k : Nat) (d : List UInt8) (hk : k ≤ 32) (hd : d.length = 32) : (padL k d).length = 32 := by unfold padL; rw [List.length_append, List.length_take, List.length_replicate]; omega
theorem run_equalB (w : World) (p q : List UInt8) (hp : p.length = 32) (hq : q.length = 32) : (Op.equalIn 10000 61 (.agg (rB p)) (.agg (rB q))).run Try.prog w = .ok (decide (p = q)) w := by
  have hs : ∀ w, (sizeOf 5).run Try.prog w = .ok 1 w := run_sizeOf 5 1 (by kernel_rfl)
  rw [rB_cell, rB_cell, run_equalIn_bytes w 9998 61 5 32 Try.underlying61 Try.underlying5 hs p q hp hq]
  congr 1
  by_cases h : p = q <;> simp [h]
theorem Row.range {w : World} {g : Nat} {T : TypeId} {L : List Value} (h : Row w g T L) (X Y Z : List Value) (hL : L = X ++ (Z ++ Y)) (off : Nat) (ho : off = X.length) : w.rangeAt g off Z := by
  intro j v hv
  have := h.part X Y Z hL off ho Z.toArray rfl j v hv
  rwa [addr_at] at this
set_option maxRecDepth 100000 in
theorem form_calls (n : Int) (d : List UInt8) (hd : d.length = 32) (b : Bool) (hb : decide (formF n d) = b) (w : World) : Calls Try.prog 77 #[.int .i64 n, .agg (rB d)] w fun r w' => r = .returned (.bool b) ∧ Below w.heap.size w w' := by
  obtain ⟨L, hL⟩ : ∃ L, L = encB d := ⟨_, rfl⟩
  rw [show rB d = L.toArray by rw [hL]; rfl]
  have hc : L.length = 32 := by rw [hL, encB_length, hd]
  have hU := Try.underlying61
  have hI : (Try.prog.info? 61).map (·.size) = some L.length := by rw [hc]; kernel_rfl
  have HCS := Lib.hid (show rB d = L.toArray by rw [hL]; rfl)
  have HD := Lib.hid hd
  have HF := Lib.hid hb
  have HR := Lib.hid (Row.fresh w w.heap.size rfl 61 L _ rfl)
  have HB := Lib.hid (below_alloc1 (Below.refl w.heap.size w) (Nat.le_refl _) (.cells L.toArray 61))
  clear hL hd hb
  by_cases hw : 1 ≤ n ∧ n ≤ 32
  · obtain ⟨k, rfl⟩ := Int.eq_ofNat_of_zero_le (show 0 ≤ n by omega)
    have hk : k ≤ 32 := by omega
    have HW := Lib.hid hw
    clear hw
    have hl0 := HR.out.drew.range [] [] L (by simp) 0 rfl
    have hm : Try.prog.eqGuardType Try.prog.depth 61 = false := by kernel_rfl
    have hE := fun w' => run_equalB w' (padL k d) d (padL_length k d hk HD.out) HD.out
    rw [HCS.out] at hE
    have hC := fun w' => dcut_calls' k hk d HD.out w'
    rw [HCS.out] at hC
    have HC := Lib.hid hC
    clear hC
    have hEb : decide (padL k d = d) = b := by
      rw [← HF.out]
      have := HW.out
      unfold formF
      simp [this.1, this.2]
    rw [hEb] at hE
    clear hEb
    go_enter Try.func77, Try.ntmps77
    go_wp2
    have hld := fun (w' : World) (h : w'.rangeAt w.heap.size 0 L) => run_loadAt_mid (P := Try.prog) w' w.heap.size 0 61 L _ h hU rfl hI
    have HH := Lib.hid hld
    clear hld
    refine wp_region_held_drew (S := fun w' => w'.rangeAt w.heap.size 0 L) (by kernel_rfl) hl0 (fun hHeld => ?_)
    refine wpAnyH_take (i := 0) (v := .int .i64 k) rfl (by kernel_rfl) (by kernel_rfl) (by kernel_rfl) (fun _ _ _ h => h) (Or.inl ⟨by rfl, fun w hS => by go_simp⟩) (by assumption) ?_
    try simp only [Act.put, List.getElem_toArray, List.getElem_cons_zero, List.setIfInBounds_toArray, List.set_cons_zero, List.set_cons_succ]
    refine wpAnyH_ready (rs := [1]) (by kernel_rfl) (by simp) ?_
    refine AllReadyH.cons rfl (fun K hK => ?_) AllReadyH.nil
    go_simp
    (go_at_call 100; (with_reducible refine (dwidth_calls _ _ true (by simp [HW.out])).mono ?_); rintro r w1 ⟨rfl, rfl⟩)
    dsimp only
    refine hK.out _ _ hl0 (fun hHeld => ?_)
    clear hK K
    try simp only [Act.put, List.getElem_toArray, List.getElem_cons_succ, List.getElem_cons_zero, List.setIfInBounds_toArray, List.set_cons_zero, List.set_cons_succ]
    refine wpAnyH_take (i := 2) (v := .bool true) rfl (by kernel_rfl) (by kernel_rfl) (by kernel_rfl) (fun _ _ _ h => h) (Or.inl ⟨by rfl, fun w hS => by go_simp⟩) (by assumption) ?_
    try simp only [Act.put, List.getElem_toArray, List.getElem_cons_succ, List.getElem_cons_zero, List.setIfInBounds_toArray, List.set_cons_zero, List.set_cons_succ]
    refine wpAnyH_take (i := 3) (v := .int .i64 k) rfl (by kernel_rfl) (by kernel_rfl) (by kernel_rfl) (fun _ _ _ h => h) (Or.inl ⟨by rfl, fun w hS => by go_simp⟩) (by assumption) ?_
    try simp only [Act.put, List.getElem_toArray, List.getElem_cons_succ, List.getElem_cons_zero, List.setIfInBounds_toArray, List.set_cons_zero, List.set_cons_succ]
    refine wpAnyH_take (i := 4) (v := .agg L.toArray) rfl (by kernel_rfl) (by kernel_rfl) (by kernel_rfl) (fun _ _ _ h => h) (yieldsIf_load_mid (by rfl) _ _ rfl w.heap.size 0 rfl L _ (fun w' h => h) hU rfl hI) (by assumption) ?_
    try simp only [Act.put, List.getElem_toArray, List.getElem_cons_succ, List.getElem_cons_zero, List.setIfInBounds_toArray, List.set_cons_zero, List.set_cons_succ]
    refine wpAnyH_take (i := 6) (v := .agg L.toArray) rfl (by kernel_rfl) (by kernel_rfl) (by kernel_rfl) (fun _ _ _ h => h) (yieldsIf_load_mid (by rfl) _ _ rfl w.heap.size 0 rfl L _ (fun w' h => h) hU rfl hI) (by assumption) ?_
    try simp only [Act.put, List.getElem_toArray, List.getElem_cons_succ, List.getElem_cons_zero, List.setIfInBounds_toArray, List.set_cons_zero, List.set_cons_succ]
    refine wpAnyH_ready (rs := [5]) (by kernel_rfl) (by simp) ?_
    refine AllReadyH.cons rfl (fun K hK => ?_) AllReadyH.nil
    clear hU hI hc
    go_simp
    (go_at_call 101; (with_reducible refine (HC.out _).mono ?_); rintro r w1 ⟨rfl, hb1⟩; have hl1 := (HR.out.drew.new hb1).range [] [] L (by simp) 0 rfl)
    dsimp only
    refine hK.out _ _ hl1 (fun hHeld => ?_)
    clear hK K
    try simp only [Act.put, List.getElem_toArray, List.getElem_cons_succ, List.getElem_cons_zero, List.setIfInBounds_toArray, List.set_cons_zero, List.set_cons_succ]
    refine wpAnyH_take (i := 7) (v := .bool b) rfl (by kernel_rfl) (by kernel_rfl) (by kernel_rfl) (fun _ _ _ h => h) (Or.inl ⟨by rfl, fun w hS => by go_simp⟩) (by assumption) ?_
    try simp only [Act.put, List.getElem_toArray, List.getElem_cons_succ, List.getElem_cons_zero, List.setIfInBounds_toArray, List.set_cons_zero, List.set_cons_succ]
    refine wpAnyH_take (i := 8) (v := .bool b) rfl (by kernel_rfl) (by kernel_rfl) (by kernel_rfl) (fun _ _ _ h => h) (Or.inl ⟨by rfl, fun w hS => by cases b <;> go_simp⟩) (by assumption) ?_
    try simp only [Act.put, List.getElem_toArray, List.getElem_cons_succ, List.getElem_cons_zero, List.setIfInBounds_toArray, List.set_cons_zero, List.set_cons_succ]
    refine wpAnyH_take (i := 9) (v := .bool b) rfl (by kernel_rfl) (by kernel_rfl) (by kernel_rfl) (fun _ _ _ h => h) (Or.inl ⟨by rfl, fun w hS => by go_simp⟩) (by assumption) ?_
    try simp only [Act.put, List.getElem_toArray, List.getElem_cons_succ, List.getElem_cons_zero, List.setIfInBounds_toArray, List.set_cons_zero, List.set_cons_succ]
    refine wpAnyH_done (by kernel_rfl) ?_ _
    go_wp2
    go_ret
    exact ⟨rfl, (HB.out.drew).trans (hb1.mono (by show w.heap.size ≤ (w.alloc _).heap.size; rw [szA]; omega))⟩
  · have hb0 : b = false := by
      rw [← HF.out]
      exact decide_eq_false (fun h => hw ⟨h.1, h.2.1⟩)
    subst hb0
    have HW := Lib.hid hw
    clear hw HF HCS hU hI hc
    go_enter Try.func77, Try.ntmps77
    go_wp2
    have hT : (fun _ : World => True) w := trivial
    refine wp_region_held_drew (S := fun _ => True) (by kernel_rfl) trivial (fun hHeld => ?_)
    refine wpAnyH_take (i := 0) (v := .int .i64 n) rfl (by kernel_rfl) (by kernel_rfl) (by kernel_rfl) (fun _ _ _ h => h) (Or.inl ⟨by rfl, fun w hS => by go_simp⟩) (by assumption) ?_
    try simp only [Act.put, List.getElem_toArray, List.getElem_cons_zero, List.setIfInBounds_toArray, List.set_cons_zero, List.set_cons_succ]
    refine wpAnyH_ready (rs := [1]) (by kernel_rfl) (by simp) ?_
    refine AllReadyH.cons rfl (fun K hK => ?_) AllReadyH.nil
    go_simp
    (go_at_call 100; (with_reducible refine (dwidth_calls _ _ false (decide_eq_false HW.out)).mono ?_); rintro r w1 ⟨rfl, rfl⟩)
    dsimp only
    refine hK.out _ _ trivial (fun hHeld => ?_)
    clear hK K
    try simp only [Act.put, List.getElem_toArray, List.getElem_cons_succ, List.getElem_cons_zero, List.setIfInBounds_toArray, List.set_cons_zero, List.set_cons_succ]
    refine wpAnyH_take (i := 2) (v := .bool false) rfl (by kernel_rfl) (by kernel_rfl) (by kernel_rfl) (fun _ _ _ h => h) (Or.inl ⟨by rfl, fun w hS => by go_simp⟩) (by assumption) ?_
    try simp only [Act.put, List.getElem_toArray, List.getElem_cons_succ, List.getElem_cons_zero, List.setIfInBounds_toArray, List.set_cons_zero, List.set_cons_succ]
    refine wpAnyH_take (i := 3) (v := undef) rfl (by kernel_rfl) (by kernel_rfl) (by kernel_rfl) (fun _ _ _ h => h) (Or.inr ⟨by rfl, rfl⟩) (by assumption) ?_
    try simp only [Act.put, List.getElem_toArray, List.getElem_cons_succ, List.getElem_cons_zero, List.setIfInBounds_toArray, List.set_cons_zero, List.set_cons_succ]
    refine wpAnyH_take (i := 4) (v := undef) rfl (by kernel_rfl) (by kernel_rfl) (by kernel_rfl) (fun _ _ _ h => h) (Or.inr ⟨by rfl, rfl⟩) (by assumption) ?_
    try simp only [Act.put, List.getElem_toArray, List.getElem_cons_succ, List.getElem_cons_zero, List.setIfInBounds_toArray, List.set_cons_zero, List.set_cons_succ]
    refine wpAnyH_take (i := 5) (v := undef) rfl (by kernel_rfl) (by kernel_rfl) (by kernel_rfl) (fun _ _ _ h => h) (Or.inr ⟨by rfl, rfl⟩) (by assumption) ?_
    try simp only [Act.put, List.getElem_toArray, List.getElem_cons_succ, List.getElem_cons_zero, List.setIfInBounds_toArray, List.set_cons_zero, List.set_cons_succ]
    refine wpAnyH_take (i := 6) (v := undef) rfl (by kernel_rfl) (by kernel_rfl) (by kernel_rfl) (fun _ _ _ h => h) (Or.inr ⟨by rfl, rfl⟩) (by assumption) ?_
    try simp only [Act.put, List.getElem_toArray, List.getElem_cons_succ, List.getElem_cons_zero, List.setIfInBounds_toArray, List.set_cons_zero, List.set_cons_succ]
    refine wpAnyH_take (i := 7) (v := undef) rfl (by kernel_rfl) (by kernel_rfl) (by kernel_rfl) (fun _ _ _ h => h) (Or.inr ⟨by rfl, rfl⟩) (by assumption) ?_
    try simp only [Act.put, List.getElem_toArray, List.getElem_cons_succ, List.getElem_cons_zero, List.setIfInBounds_toArray, List.set_cons_zero, List.set_cons_succ]
    refine wpAnyH_take (i := 8) (v := .bool false) rfl (by kernel_rfl) (by kernel_rfl) (by kernel_rfl) (fun _ _ _ h => h) (Or.inl ⟨by rfl, fun w hS => by go_simp⟩) (by assumption) ?_
    try simp only [Act.put, List.getElem_toArray, List.getElem_cons_succ, List.getElem_cons_zero, List.setIfInBounds_toArray, List.set_cons_zero, List.set_cons_succ]
    refine wpAnyH_take (i := 9) (v := .bool false) rfl (by kernel_rfl) (by kernel_rfl) (by kernel_rfl) (fun _ _ _ h => h) (Or.inl ⟨by rfl, fun w hS => by go_simp⟩) (by assumption) ?_
    try simp only [Act.put, List.getElem_toArray, List.getElem_cons_succ, List.getElem_cons_zero, List.setIfInBounds_toArray, List.set_cons_zero, List.set_cons_succ]
    refine wpAnyH_done (by kernel_rfl) ?_ _
    go_wp2
    go_ret
    exact ⟨rfl, HB.out.drew⟩
end Go.Proofs.Ytelecdncdaepnaa
