/- The reference of layer 1: Done; Uvar, Blob. -/
import Derived.Test.YtelecdncdaepnaaRefReadWalk4
namespace Go.Proofs.Ytelecdncdaepnaa
open Go.RowKit
open WireMath (numS beN rawS blobS uvarS grpL grpTo uvarL uvarF grp lst)

set_option maxRecDepth 100000 in
theorem refdone_calls (A : Option Addr) (P : List UInt8) (n c at_ e : Nat) (E T : Int) (hE : E = e) (hT : T = at_) (w : World) (hn : n = P.length) (hat : at_ ≤ P.length) :
    Calls Try.prog 72 #[.agg #[.slice A n c, .int .i64 T, .int .i64 E]] w fun e' w' => e' = .returned (.int .i64 (doneE P at_ e)) ∧ Below w.heap.size w w' := by
  subst hE; subst hT; subst hn
  have HF := Lib.hid (below_alloc1 (Below.refl w.heap.size w) (Nat.le_refl _) (.cells #[.slice A P.length c, .int .i64 at_, .int .i64 e] 105))
  by_cases he : e = 0
  · subst he
    rw [show ((0 : Nat) : Int) = 0 from rfl] at HF
    by_cases hd : at_ = P.length
    · have hfin : doneE P at_ 0 = 0 := by unfold doneE; rw [if_pos (.inr hd)]
      have hb : ¬ at_ < P.length := by omega
      rw [hfin]
      clear hfin hd
      go_enter Try.func72, Try.ntmps72
      go_wp2
      go_ret
      exact ⟨rfl, HF.out⟩
    · have hfin : doneE P at_ 0 = 3 := by simp [doneE, hd]
      have hb : at_ < P.length := by omega
      rw [hfin]
      clear hfin hd
      go_enter Try.func72, Try.ntmps72
      go_wp2
      go_ret
      exact ⟨rfl, HF.out⟩
  · have hb : ((e : Int) == 0) = false := by rw [beq_eq_false_iff_ne]; omega
    have hfin : doneE P at_ e = e := by simp [doneE, he]
    rw [hfin]
    clear hfin he
    go_enter Try.func72, Try.ntmps72
    go_wp2
    go_ret
    exact ⟨rfl, HF.out⟩

theorem grp_eq (x : Nat) : (x : Int) % 128 + 128 = uB (grp x) := by
  unfold WireMath.grp; rw [uB_ofNat]; omega
set_option maxRecDepth 100000 in
theorem refuvar_calls (v : Nat) (V : Int) (hV : V = v) (w : World) (hv : v ≤ 18446744073709551615) :
    Calls Try.prog 54 #[.int .u64 V] w fun e w' => ∃ A' c', e = .returned (.slice A' (uvarL v).length c') ∧ NewB w w' (.slice A' (uvarL v).length c') (uvarL v) := by
  subst hV
  have hul := WireMath.uvarL_length v
  go_enter Try.func54, Try.ntmps54
  go_wp2
  go_loopw [0, 3] (fun i l wr => ∃ (x f : Nat) (pre : List UInt8), x ≤ v ∧ Hid (x < 128 ^ (f + 1)) ∧ i = .int .u64 x ∧ Hid (pre ++ uvarF f x = uvarL v) ∧ OB wr w.heap.size 5 l pre ∧ Below w.heap.size w wr) (fun i _ _ => (intOf i).toNat)
  case atStart => exact ⟨v, 9, [], Nat.le_refl _, Lib.hid (by simp; omega), rfl, Lib.hid rfl, OB.nil _ _ _, Below.refl _ _⟩
  case round =>
    obtain ⟨x, f, pre, hx, hxf, rfl, HP, HO, HB⟩ := hrel
    obtain ⟨A0, c0, rfl, _⟩ := HO.form
    have hll : pre.length + 1 ≤ 140737488355328 := by
      have h1 := congrArg List.length HP.out
      have h3 := WireMath.uvarF_pos f x
      simp only [List.length_append] at h1
      omega
    have hBs := HB.size
    by_cases hlt : x < 128
    · have hone : uvarF f x = [lst x] := by cases f <;> simp [uvarF, hlt]
      have hb : (x : Int) = uB (lst x) := by unfold WireMath.lst; rw [uB_ofNat]; omega
      have HX := Lib.hid hb
      have HON := Lib.hid hone
      clear hb hone
      go_wp2_with (rw [HX.out]; refine wp_appendB_at bt rfl (.tmp 15) (.tmp 18) rfl w.heap.size (.slice A0 pre.length c0) pre rfl (HO.alloc _) _ [lst x] 1 1 rfl rfl (one_byte wr _) (by simpa using hll) (by simp; omega) (pre ++ [lst x]) rfl fun A3 c3 w2 ho2 hg2 _ => ?_)
      go_ret
      have HE : pre ++ [lst x] = uvarL v := by have := HP.out; rw [HON.out] at this; exact this
      have hlen : (uvarL v).length = pre.length + 1 := by rw [← HE]; simp
      have hBG := below_grown (HB.alloc hBs (.cells #[.int .u8 (uB (lst x))] 5)) (HO.alloc _) hg2 (Nat.le_trans hBs (by simp)) (Nat.le_refl _)
      rw [HE] at ho2
      exact ⟨A3, c3, by rw [hlen]; rfl, ho2, hBG⟩
    · cases f with
      | zero => have := hxf.out; simp at this; omega
      | succ f =>
        have hmore : uvarF (f + 1) x = grp x :: uvarF f (x / 128) := by simp [uvarF, hlt]
        have hb := grp_eq x
        have HM := Lib.hid hmore
        clear hmore
        go_wp2_with (refine wp_appendB_at bt rfl (.tmp 6) (.tmp 11) rfl w.heap.size (.slice A0 pre.length c0) pre rfl (HO.alloc _) _ [grp x] 1 1 rfl rfl (one_byte wr _) (by simpa using hll) (by simp; omega) (pre ++ [grp x]) rfl fun A3 c3 w2 ho2 hg2 _ => ?_)
        go_roundw
        case rel => exact ⟨x / 128, f, pre ++ [grp x], by omega, Lib.hid (by have := hxf.out; rw [Nat.pow_succ] at this; omega), (by first | rfl | go_num), Lib.hid (by rw [← HP.out, HM.out]; simp), by simpa using ho2, below_grown (HB.alloc hBs (.cells #[.int .u8 (uB (grp x))] 5)) (HO.alloc _) hg2 (Nat.le_trans hBs (by simp)) (Nat.le_refl _)⟩
        case measure => simp [intOf] <;> omega
set_option maxRecDepth 100000 in
theorem refblob_calls (A : Option Addr) (q : List UInt8) (n c : Nat) (w : World) (hp : RB w A c q) (hn : n = q.length) (hl : q.length ≤ 140737488355328) :
    Calls Try.prog 92 #[.slice A n c] w fun e w' => ∃ A' c', e = .returned (.slice A' ((uvarL q.length).length + q.length) c') ∧ NewB w w' (.slice A' ((uvarL q.length).length + q.length) c') (uvarL q.length ++ q) := by
  subst hn
  have hul := WireMath.uvarL_length q.length
  go_enter Try.func92, Try.ntmps92
  go_wp2_with (first
    | (go_at_call 54; (with_reducible refine (refuvar_calls q.length _ rfl _ (by omega)).mono ?_); rintro e1 w1 ⟨A1, c1, rfl, hn1⟩)
    | (go_at_call 53; (with_reducible refine (joinN A1 A (uvarL q.length) q (uvarL q.length ++ q) (uvarL q.length).length q.length ((uvarL q.length).length + q.length) c1 c _ hn1.own.rb (hp.new hn1.below) rfl rfl rfl rfl (by omega)).mono ?_); rintro e2 w2 ⟨A2, c2, rfl, hn2⟩))
  go_ret
  exact ⟨A2, c2, rfl, hn2.own.mono hn1.below.size, below_then hn1.below hn2.below⟩
end Go.Proofs.Ytelecdncdaepnaa
