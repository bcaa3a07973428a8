/- The statement on sums of pieces and a turned byte, of the whole program's part. -/
import Derived.Test.YtfkbdchpncadoaaCrcLaws3
namespace Go.Proofs.Ytfkbdchpncadoaa
open Go.RowKit
open CrcMath (W)

def flip1 (p : List UInt8) (i : Nat) (t : UInt8) : List UInt8 := p.modify i (· ^^^ t)
theorem flip1_length (p : List UInt8) (i : Nat) (t : UInt8) : (flip1 p i t).length = p.length := by simp [flip1]
theorem flip1_told (p : List UInt8) (i : Nat) (hi : i < p.length) (t : UInt8) (ht : t ≠ 0) : (uI (CrcMath.sum ((flip1 p i t).map bW)) != uI (CrcMath.sum (p.map bW))) = true := by
  rw [bne_iff_ne]
  intro e
  have hlt : ∀ (l : List UInt8), ∀ v ∈ l.map bW, v.toNat < 256 := by
    intro l v hv
    rw [List.mem_map] at hv
    obtain ⟨b, _, rfl⟩ := hv
    exact bW_lt b
  have h1 := CrcMath.sum_tells ((flip1 p i t).map bW) (p.map bW) i (by simp [flip1_length]) (hlt _) (hlt p) (fun j hj hj' hc => by
    simp only [List.getElem_map, flip1]
    rw [List.getElem_modify, if_neg (by omega)]) (uI_inj.1 e)
  have h2 : flip1 p i t = p := (List.map_inj_right (fun a b hab => by
    have h3 := congrArg BitVec.toNat hab
    have ha := a.toNat_lt
    have hb := b.toNat_lt
    unfold bW at h3
    rw [BitVec.toNat_ofNat, BitVec.toNat_ofNat] at h3
    exact UInt8.toNat_inj.1 (by omega))).1 h1
  have h3 : (flip1 p i t)[i]'(by rw [flip1_length]; exact hi) = p[i] := by simp only [h2]
  simp only [flip1, List.getElem_modify_eq] at h3
  apply ht
  have h4 : p[i] ^^^ (p[i] ^^^ t) = p[i] ^^^ p[i] := by rw [h3]
  simpa [← UInt8.xor_assoc] using h4

theorem sum_lit_b (w : World) : Calls Try.prog 16 #[.slice (some ⟨w.heap.size, 0, none⟩) 9 9] (w.alloc (.cells #[.int .u8 49, .int .u8 50, .int .u8 51, .int .u8 52, .int .u8 53, .int .u8 54, .int .u8 55, .int .u8 56, .int .u8 57] 5 (9, 10))) fun e w' => e = .returned (.int .u32 3808858755) ∧ Below w.heap.size w w' :=
  (sum_lit w).mono fun _ _ ⟨h1, h2⟩ => ⟨h1, by rw [← h2]; exact (Below.refl _ _).alloc (Nat.le_refl _) _⟩
theorem flip1_set (p : List UInt8) (i : Nat) (hi : i < p.length) (t : UInt8) : p.set i (p[i] ^^^ t) = flip1 p i t := by
  unfold flip1
  apply List.ext_getElem
  · simp
  · intro j g1 g2
    rw [List.getElem_modify, List.getElem_set]
    by_cases e : i = j
    · subst e; simp
    · rw [if_neg e, if_neg e]
theorem OB.formNE {w : World} {base e : Nat} {v : Value} {p : List UInt8} (h : OB w base e v p) (hp : 0 < p.length) : ∃ g c, v = .slice (some ⟨g, 0, none⟩) p.length c := by
  rcases h.out.2 with ⟨_, h0⟩ | ⟨g, cap, cur, hv, _⟩
  · omega
  · exact ⟨g, cap, hv⟩

set_option maxHeartbeats 1000000 in
theorem wholeSums_calls (A : Option Addr) (p : List UInt8) (cp : Nat) (B : Option Addr) (q : List UInt8) (cq : Nat) (at_ : Int) (h0 : 0 ≤ at_) (h1 : at_ ≤ 65535) (t : UInt8) (w : World) (hp : RB w A cp p) (hq : RB w B cq q) (hl : p.length + q.length ≤ 140737488355328) :
    Calls Try.prog 11 #[.slice A p.length cp, .slice B q.length cq, .int .u16 at_, .int .u8 (uB t)] w fun e w' => e = .returned (.bool true) ∧ Below w.heap.size w w' := by
  have kc := conv_lit
  have e1 : CrcMath.joinN (CrcMath.sum (p.map bW)) (CrcMath.sum (q.map bW)) (q.length : Int).toNat = CrcMath.sum ((p ++ q).map bW) := by
    have h1 := CrcMath.joinN_upd (CrcMath.sum (p.map bW)) (q.map bW)
    rw [List.length_map] at h1
    rw [Int.toNat_natCast, h1, map_bW_append]
    exact (CrcMath.upd_append 0 _ _).symm
  have e2 : CrcMath.upd (CrcMath.sum (p.map bW)) (q.map bW) = CrcMath.sum ((p ++ q).map bW) := by
    rw [map_bW_append]
    exact (CrcMath.upd_append 0 _ _).symm
  have hs := hq.small
  generalize hP : CrcMath.sum (p.map bW) = sp at e1 e2
  generalize hQ : CrcMath.sum (q.map bW) = sq at e1
  generalize hPQ : CrcMath.sum ((p ++ q).map bW) = spq at e1 e2
  have E1 := Lib.hid e1
  have E2 := Lib.hid e2
  have HP := Lib.hid hP
  have HQ := Lib.hid hQ
  have HPQ := Lib.hid hPQ
  clear e1 e2 hP hQ hPQ
  by_cases hpe : p.length = 0
  · have hb0 : ((p.length : Int) == 0) = true := by rw [hpe]; rfl
    clear hpe
    go_enter Try.func11, Try.ntmps11
    go_wp2_with (first | (go_at_call 16; (with_reducible refine (sum_lit_b _).mono ?_); rintro e w1 ⟨rfl, HB⟩; replace hp := hp.new HB; replace hq := hq.new HB; have HZ := HB.size; have hp0 := hp; have hq0 := hq) | (go_at_call 25; (with_reducible refine (toptwin_calls A p cp _ hp (by omega)).mono ?_); rintro e w2 ⟨A', c', rfl, hn2⟩; replace hp := hp.new hn2.below; replace hq := hq.new hn2.below; replace HB := below_new HB hn2.below; have ho2 := hn2.own) | (refine wp_appendB bt rfl (.tmp 16) (.tmp 17) rfl w1.heap.size _ p rfl ho2 B q q.length cq rfl rfl hq hl hn2.below.size fun v3 w3 ho3 hg3 _ => ?_; have HG3 := below_grown (Below.refl w1.heap.size w2) ho2 hg3 hn2.below.size (Nat.le_refl _); obtain ⟨A3, c3, rfl, hr3⟩ := ho3.form; replace hp := hp0.below (hn2.below.trans HG3) hp0.old; replace hq := hq0.below (hn2.below.trans HG3) hq0.old; replace HB := HB.trans (HG3.mono HZ)) | (go_at_call 16; (with_reducible refine (sumR A3 (p ++ q) _ c3 _ hr3 (by simp) _ HPQ.out).mono ?_); rintro e w' ⟨rfl, rfl⟩) | (go_at_call 16; (with_reducible refine (sumR A p _ cp _ hp rfl _ HP.out).mono ?_); rintro e w' ⟨rfl, rfl⟩) | (go_at_call 16; (with_reducible refine (sumR B q _ cq _ hq rfl _ HQ.out).mono ?_); rintro e w' ⟨rfl, rfl⟩) | (go_at_call 13; (with_reducible refine (updateR sp B q _ cq _ hq rfl _ E2.out).mono ?_); rintro e w' ⟨rfl, rfl⟩) | (go_at_call 18; (with_reducible refine (joinR sp sq q.length (by omega) (by omega) _ _ E1.out).mono ?_); rintro e w4 ⟨rfl, hb4⟩; replace HB := below_new HB hb4; replace hp := hp.new hb4; replace hq := hq.new hb4))
    go_ret
    exact ⟨rfl, HB⟩
  · have hb0 : ((p.length : Int) == 0) = false := by rw [beq_eq_false_iff_ne]; omega
    have hpos : 0 < p.length := by omega
    clear hpe
    by_cases ht : t = 0
    · have hb1 : (uB t == 0) = true := by rw [ht]; rfl
      clear ht
      go_enter Try.func11, Try.ntmps11
      go_wp2_with (first | (go_at_call 16; (with_reducible refine (sum_lit_b _).mono ?_); rintro e w1 ⟨rfl, HB⟩; replace hp := hp.new HB; replace hq := hq.new HB; have HZ := HB.size; have hp0 := hp; have hq0 := hq) | (go_at_call 25; (with_reducible refine (toptwin_calls A p cp _ hp (by omega)).mono ?_); rintro e w2 ⟨A', c', rfl, hn2⟩; replace hp := hp.new hn2.below; replace hq := hq.new hn2.below; replace HB := below_new HB hn2.below; have ho2 := hn2.own) | (refine wp_appendB bt rfl (.tmp 16) (.tmp 17) rfl w1.heap.size _ p rfl ho2 B q q.length cq rfl rfl hq hl hn2.below.size fun v3 w3 ho3 hg3 _ => ?_; have HG3 := below_grown (Below.refl w1.heap.size w2) ho2 hg3 hn2.below.size (Nat.le_refl _); obtain ⟨A3, c3, rfl, hr3⟩ := ho3.form; replace hp := hp0.below (hn2.below.trans HG3) hp0.old; replace hq := hq0.below (hn2.below.trans HG3) hq0.old; replace HB := HB.trans (HG3.mono HZ)) | (go_at_call 16; (with_reducible refine (sumR A3 (p ++ q) _ c3 _ hr3 (by simp) _ HPQ.out).mono ?_); rintro e w' ⟨rfl, rfl⟩) | (go_at_call 16; (with_reducible refine (sumR A p _ cp _ hp rfl _ HP.out).mono ?_); rintro e w' ⟨rfl, rfl⟩) | (go_at_call 16; (with_reducible refine (sumR B q _ cq _ hq rfl _ HQ.out).mono ?_); rintro e w' ⟨rfl, rfl⟩) | (go_at_call 13; (with_reducible refine (updateR sp B q _ cq _ hq rfl _ E2.out).mono ?_); rintro e w' ⟨rfl, rfl⟩) | (go_at_call 18; (with_reducible refine (joinR sp sq q.length (by omega) (by omega) _ _ E1.out).mono ?_); rintro e w4 ⟨rfl, hb4⟩; replace HB := below_new HB hb4; replace hp := hp.new hb4; replace hq := hq.new hb4))
      go_ret
      exact ⟨rfl, HB⟩
    · have hb1 : (uB t == 0) = false := by
        rw [beq_eq_false_iff_ne]
        intro e
        apply ht
        unfold uB at e
        exact UInt8.toNat_inj.1 (by simp; omega)
      obtain ⟨i, hi⟩ : ∃ i : Nat, at_ % (p.length : Int) = i := ⟨(at_ % (p.length : Int)).toNat, by have := Int.emod_nonneg at_ (b := (p.length : Int)) (by omega); omega⟩
      have hil : i < p.length := by have := Int.emod_lt_of_pos at_ (b := (p.length : Int)) (by omega); omega
      have hfl := flip1_told p i hil t ht
      have hfll := flip1_length p i t
      generalize hfe : flip1 p i t = fl at hfl hfll
      have HFE := Lib.hid hfe
      have HFLL := Lib.hid hfll
      generalize hfs : CrcMath.sum (fl.map bW) = sf at hfl
      rw [HP.out] at hfl
      have HFS := Lib.hid hfs
      have HT := Lib.hid ht
      have hxr := bits_xor_u8 p[i] t
      clear ht hfe hfll hfs
      go_enter Try.func11, Try.ntmps11
      go_wp2_with (first | (go_at_call 16; (with_reducible refine (sumR _ fl _ _ _ HSET.out.reads HFLL.out.symm _ HFS.out).mono ?_); rintro e w' ⟨rfl, rfl⟩) | (go_at_call 16; (with_reducible refine (sumR A p _ cp _ hpS rfl _ HP.out).mono ?_); rintro e w' ⟨rfl, rfl⟩) | (go_at_call 16; (with_reducible refine (sum_lit_b _).mono ?_); rintro e w1 ⟨rfl, HB⟩; replace hp := hp.new HB; replace hq := hq.new HB; have HZ := HB.size; have hp0 := hp; have hq0 := hq) | (go_at_call 25; (with_reducible refine (toptwin_calls A p cp _ hp (by omega)).mono ?_); rintro e w2 ⟨A', c', rfl, hn2⟩; obtain ⟨g, c5, hv⟩ := hn2.own.formNE hpos; injection hv with hv1 hv2 hv3; subst hv1; subst hv3; clear hv2; obtain ⟨hc, hf⟩ := hn2.own.cell i hil; have hset := (hn2.own.set i (p[i] ^^^ t)).1; rw [flip1_set p i hil t, HFE.out] at hset; have HSET := Lib.hid hset; clear hset; have hpo := hp.old; have hge := hn2.own.grown_eq.1; have HZ2 := HB.size; replace hp := hp.new hn2.below; have hpS := hp.below (Below.setCell (Below.refl _ _) (p := ⟨g, i, Option.none⟩) hge (.int .u8 (uB (p[i] ^^^ t)))) hpo; replace hq := hq.new hn2.below; replace HB := below_new HB hn2.below; have ho2 := hn2.own) | (refine wp_appendB bt rfl (.tmp 16) (.tmp 17) rfl w1.heap.size _ p rfl ho2 B q q.length cq rfl rfl hq hl hn2.below.size fun v3 w3 ho3 hg3 _ => ?_; have HG3 := below_grown (Below.refl w1.heap.size w2) ho2 hg3 hn2.below.size (Nat.le_refl _); obtain ⟨A3, c3, rfl, hr3⟩ := ho3.form; replace hp := hp0.below (hn2.below.trans HG3) hp0.old; replace hq := hq0.below (hn2.below.trans HG3) hq0.old; replace HB := HB.trans (HG3.mono HZ)) | (go_at_call 16; (with_reducible refine (sumR A3 (p ++ q) _ c3 _ hr3 (by simp) _ HPQ.out).mono ?_); rintro e w' ⟨rfl, rfl⟩) | (go_at_call 16; (with_reducible refine (sumR A p _ cp _ hp rfl _ HP.out).mono ?_); rintro e w' ⟨rfl, rfl⟩) | (go_at_call 16; (with_reducible refine (sumR B q _ cq _ hq rfl _ HQ.out).mono ?_); rintro e w' ⟨rfl, rfl⟩) | (go_at_call 13; (with_reducible refine (updateR sp B q _ cq _ hq rfl _ E2.out).mono ?_); rintro e w' ⟨rfl, rfl⟩) | (go_at_call 18; (with_reducible refine (joinR sp sq q.length (by omega) (by omega) _ _ E1.out).mono ?_); rintro e w4 ⟨rfl, hb4⟩; replace HB := below_new HB hb4; replace hp := hp.new hb4; replace hq := hq.new hb4))
      go_ret
      exact ⟨rfl, HB.setCell (p := ⟨g, i, Option.none⟩) (Nat.le_trans HZ2 hge) _⟩
end Go.Proofs.Ytfkbdchpncadoaa
