/- The walks of the reader's groups, bytes and blobs. -/
import Derived.Test.YtelecdncdaepnaaReadWords
namespace Go.Proofs.Ytelecdncdaepnaa
open Go.RowKit
open WireMath (beN numS grpL grpTo)

theorem bits_and_127 (c : UInt8) : bits .and .u8 (uB c) 127 = ((c.toNat % 128 : Nat) : Int) := by
  have h := uB_range c
  have h2 := bits_mask .u8 8 (by decide) wraps_u8 7 (by decide) (uB c) h.1 (by omega)
  rw [show ((2 : Int) ^ 7 - 1) = 127 from rfl] at h2
  rw [h2]
  unfold uB
  simp

theorem bits_or_comm (k : IntKind) (x y : Int) : bits .or k x y = bits .or k y x := by
  show k.wrap ((BitVec.ofInt k.bits x ||| BitVec.ofInt k.bits y).toNat : Int) = k.wrap ((BitVec.ofInt k.bits y ||| BitVec.ofInt k.bits x).toNat : Int)
  rw [BitVec.or_comm]
theorem grp_or (x : Nat) (c : UInt8) (k : Nat) (hk : k ≤ 9) (hx : x < 128 ^ k) (h9 : k = 9 → c.toNat % 128 ≤ 1) :
    bits .or .u64 (x : Int) (IntKind.u64.wrap ((c.toNat : Int) % 128 * 2 ^ (7 * k))) = ((x + c.toNat % 128 * 128 ^ k : Nat) : Int) := by
  have hp : (128 : Nat) ^ k = 2 ^ (7 * k) := by rw [Nat.pow_mul]
  have hlt : c.toNat % 128 * 128 ^ k + 128 ^ k ≤ 2 ^ 64 := by
    by_cases e : k = 9
    · subst e
      have := h9 rfl
      have h3 : c.toNat % 128 * 128 ^ 9 ≤ 1 * 128 ^ 9 := Nat.mul_le_mul_right _ this
      exact Nat.le_trans (Nat.add_le_add_right h3 _) (by decide)
    · have h1 : 128 ^ k ≤ 128 ^ 8 := Nat.pow_le_pow_right (by decide) (by omega)
      have h2 : (c.toNat % 128 + 1) * 128 ^ k ≤ 128 * 128 ^ 8 := Nat.mul_le_mul (by omega) h1
      rw [Nat.add_mul, Nat.one_mul] at h2
      exact Nat.le_trans h2 (by decide)
  have e1 : (c.toNat : Int) % 128 * 2 ^ (7 * k) = ((c.toNat % 128 * 128 ^ k : Nat) : Int) := by rw [hp]; simp
  rw [e1]
  have hw : IntKind.u64.wrap ((c.toNat % 128 * 128 ^ k : Nat) : Int) = ((c.toNat % 128 * 128 ^ k : Nat) : Int) := by
    rw [IntKind.wrap_u64]
    have h0 : 0 < 128 ^ k := Nat.pow_pos (by decide)
    generalize c.toNat % 128 * 128 ^ k = m at *
    generalize 128 ^ k = z at *
    have : (2 : Nat) ^ 64 = 18446744073709551616 := by decide
    omega
  rw [hw, bits_or_comm]
  have hmod : ((c.toNat % 128 * 128 ^ k : Nat) : Int) % 2 ^ (7 * k) = 0 := by
    have : (c.toNat % 128 * 128 ^ k) % 2 ^ (7 * k) = 0 := by rw [hp]; exact Nat.mul_mod_left _ _
    have e2 : ((c.toNat % 128 * 128 ^ k : Nat) : Int) % 2 ^ (7 * k) = (((c.toNat % 128 * 128 ^ k) % 2 ^ (7 * k) : Nat) : Int) := by simp
    rw [e2, this]; rfl
  have hxi : (x : Int) < 2 ^ (7 * k) := by
    have : ((2 ^ (7 * k) : Nat) : Int) = 2 ^ (7 * k) := by simp
    rw [← this, ← hp]; omega
  have h0 : 0 < 128 ^ k := Nat.pow_pos (by decide)
  have hb := bits_join .u64 64 (by decide) (fun n h0 h1 => by rw [IntKind.wrap_u64]; omega) (7 * k) ((c.toNat % 128 * 128 ^ k : Nat) : Int) (x : Int) (by omega) hmod
    (by have : (2 : Int) ^ 64 = ((2 ^ 64 : Nat) : Int) := by decide
        rw [this]; omega) (by omega) hxi
    (by have : (2 : Int) ^ 64 = ((2 ^ 64 : Nat) : Int) := by decide
        rw [this]; omega)
  rw [hb]
  omega
theorem grp_next (x : Nat) (c : UInt8) (k : Nat) (hx : x < 128 ^ k) : x + c.toNat % 128 * 128 ^ k < 128 ^ (k + 1) := by
  have h2 : (c.toNat % 128 + 1) * 128 ^ k ≤ 128 * 128 ^ k := Nat.mul_le_mul_right _ (by omega)
  rw [Nat.add_mul, Nat.one_mul] at h2
  rw [Nat.pow_succ]
  omega

set_option maxRecDepth 100000 in
theorem group_calls (base : Nat → Prop) (b : Nat) (P : List UInt8) (at_ e : Nat) (w : World) (hr : Rd w base b P at_ e) (hl : P.length ≤ 9223372036854775807) :
    Calls Try.prog 93 #[.pointer (some ⟨b, 0, none⟩)] w fun e' w' => e' = .returned (.tuple #[.int .u64 (grpL (P.drop at_)).1, .int .i64 (grpL (P.drop at_)).2]) ∧ Drawn w w' := by
  have hp := hr.place
  have hle := hr.le
  obtain ⟨A, c, c1, c2, c3⟩ := hr.s
  have hcap := c2.len
  have hcut := c2.cut at_ P.length hle (Nat.le_refl _)
  rw [List.take_of_length_le (by simp)] at hcut
  have hsl := fun w' : World => run_cut_l w' A P.length c (at_ : Int) at_ rfl hle
  go_enter Try.func93, Try.ntmps93
  go_wp2
  go_quiet (fail)
  rename Nat => nq0
  clear hsl
  have hql : (P.drop at_).length = P.length - at_ := by simp
  generalize hq : P.drop at_ = q at hcut hql
  generalize hA : cutA A at_ c = A2 at *
  generalize hc9 : c - at_ = c2' at *
  have HQL := Lib.hid hql
  have HQ := Lib.hid hq
  clear hql hq hA hc9 c1 c2 c3 hr hp
  go_wp2
  go_loop [4, 17] (fun v i => ∃ (k x : Nat), k ≤ q.length ∧ k ≤ 9 ∧ x < 128 ^ k ∧ i = .int .i64 k ∧ v = .int .u64 x ∧ Hid (grpTo k x (q.drop k) = grpL q)) (fun _ i => P.length - (intOf i).toNat)
  case atStart => exact ⟨0, 0, by omega, by omega, by simp, rfl, rfl, Lib.hid rfl⟩
  case round =>
    obtain ⟨k, x, hk, hk9, hx, rfl, rfl, HG⟩ := hrel
    by_cases hlt : k < q.length
    · have hlt2 : (k : Int) < ((P.length - at_ : Nat) : Int) := by have := HQL.out; omega
      have hdrop : q.drop k = q[k] :: q.drop (k + 1) := List.drop_eq_getElem_cons hlt
      obtain ⟨a, rfl, hc⟩ := hcut.at_ k hlt
      have hand := bits_and_127 q[k]
      have hbr := uB_range q[k]
      generalize q[k] = ch at *
      have hg : grpL q = grpTo k x (ch :: q.drop (k + 1)) := by rw [← hdrop]; exact HG.out.symm
      clear HG hdrop
      by_cases k9 : k = 9
      · have hk9b : ((k : Int) == 9) = true := by rw [k9]; rfl
        by_cases hc1 : ch = 1
        · have hfin : grpL q = (x + ch.toNat % 128 * 128 ^ k, k + 1) := by
            rw [hg]; unfold WireMath.grpTo
            rw [if_neg (by rw [hc1]; simp), if_pos (by rw [hc1]; decide)]
          have hor := grp_or x ch k hk9 hx (fun _ => by rw [hc1]; decide)
          have hcn : (uB ch != 1) = false := by rw [hc1]; decide
          have hc0 : (uB ch == 0) = false := by rw [hc1]; decide
          have hcl : uB ch < 128 := by rw [hc1]; decide
          have hkp : 0 < k := by omega
          clear hg hx
          generalize x + ch.toNat % 128 * 128 ^ k = nv at *
          have HF := Lib.hid hfin
          clear hfin k9 hc1
          go_wp2
          go_ret2
          exact ⟨by rw [HQ.out, HF.out]; rfl, ⟨_, rfl⟩⟩
        · have hfin : grpL q = (0, 0) := by
            rw [hg]; unfold WireMath.grpTo
            rw [if_pos (.inl ⟨k9, hc1⟩)]
          have hcn : (uB ch != 1) = true := by rw [bne_iff_ne]; intro e; apply hc1; unfold uB at e; exact UInt8.toNat_inj.1 (by simp; omega)
          have HF := Lib.hid hfin
          clear hfin k9 hc1 hg
          go_wp2
          go_ret2
          exact ⟨by rw [HQ.out, HF.out]; rfl, ⟨_, rfl⟩⟩
      · have hk9b : ((k : Int) == 9) = false := by rw [beq_eq_false_iff_ne]; omega
        have hk8 : k ≤ 8 := by omega
        by_cases hz : 0 < k ∧ ch = 0
        · obtain ⟨hkp, hz⟩ := hz
          have hfin : grpL q = (0, 0) := by
            rw [hg]; unfold WireMath.grpTo
            rw [if_pos (.inr ⟨hkp, hz⟩)]
          have hc0 : (uB ch == 0) = true := by rw [hz]; rfl
          have HF := Lib.hid hfin
          clear hfin k9 hz hg
          go_wp2
          go_ret2
          exact ⟨by rw [HQ.out, HF.out]; rfl, ⟨_, rfl⟩⟩
        · have hor := grp_or x ch k hk9 hx (fun e => absurd e k9)
          have hnx := grp_next x ch k hx
          have hskip : grpTo k x (ch :: q.drop (k + 1)) = if ch.toNat < 128 then (x + ch.toNat % 128 * 128 ^ k, k + 1) else grpTo (k + 1) (x + ch.toNat % 128 * 128 ^ k) (q.drop (k + 1)) := by
            show (if (k = 9 ∧ ch ≠ 1) ∨ (0 < k ∧ ch = 0) then (0, 0) else _) = _
            rw [if_neg (by intro h; rcases h with ⟨h, _⟩ | h; exact k9 h; exact hz h)]
          rw [hskip] at hg
          have hguard : (0 < k → (uB ch == 0) = false) := by
            intro h0
            rw [beq_eq_false_iff_ne]; intro e; apply hz; refine ⟨h0, ?_⟩; unfold uB at e; exact UInt8.toNat_inj.1 (by simp; omega)
          have HGD := Lib.hid hguard
          clear hx hskip hguard hz k9
          generalize x + ch.toNat % 128 * 128 ^ k = nv at *
          have HNX := Lib.hid hnx
          clear hnx
          by_cases hcl : ch.toNat < 128
          · rw [if_pos hcl] at hg
            have hcu : uB ch < 128 := by unfold uB; omega
            have HF := Lib.hid hg
            clear hg hcl
            by_cases hkp : 0 < k
            · have hc0 := HGD.out hkp
              go_wp2
              go_ret2
              exact ⟨by rw [HQ.out, HF.out]; rfl, ⟨_, rfl⟩⟩
            · go_wp2
              go_ret2
              exact ⟨by rw [HQ.out, HF.out]; rfl, ⟨_, rfl⟩⟩
          · rw [if_neg hcl] at hg
            have hcu : 128 ≤ uB ch := by unfold uB; omega
            have HF := Lib.hid hg
            clear hg hcl
            by_cases hkp : 0 < k
            · have hc0 := HGD.out hkp
              go_wp2
              go_round
              case rel => exact ⟨k + 1, nv, by omega, by omega, HNX.out, (by first | rfl | go_num), rfl, Lib.hid HF.out.symm⟩
              case measure => simp [intOf] <;> omega
            · go_wp2
              go_round
              case rel => exact ⟨k + 1, nv, by omega, by omega, HNX.out, (by first | rfl | go_num), rfl, Lib.hid HF.out.symm⟩
              case measure => simp [intOf] <;> omega
    · have hlt2 : ¬ (k : Int) < ((P.length - at_ : Nat) : Int) := by have := HQL.out; omega
      have hfin : grpL q = (0, 0) := by
        rw [← HG.out, List.drop_of_length_le (by omega)]; cases k <;> rfl
      have HF := Lib.hid hfin
      clear hfin
      go_wp2
      go_ret2
      exact ⟨by rw [HQ.out, HF.out]; rfl, ⟨_, rfl⟩⟩

open WireMath (uvarS rawS blobS)
theorem grpLe (P : List UInt8) (at_ : Nat) (h : at_ ≤ P.length) : at_ + (grpL (P.drop at_)).2 ≤ P.length := by
  have := WireMath.grpL_le (P.drop at_)
  rw [List.length_drop] at this
  omega
theorem grown_drawn {w w' : World} (h : Drawn w w') (row : Option Nat) : w.grownBy w' row := grown_of_below (h.below _) row

end Go.Proofs.Ytelecdncdaepnaa
