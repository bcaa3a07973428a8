/- Plain laws of layer 5: what is laid is taken off again; what was taken off are the only bytes. -/
import Derived.Test.YtelecdncdaepnaaBatchWalk
import Derived.Test.YtelecdncdaepnaaEncBatch
import Derived.Test.YtelecdncdaepnaaWireMath2
namespace Go.Proofs.Ytelecdncdaepnaa
open WireMath (numS beN rawS blobS uvarS grpL uvarL wideL)

theorem num1_laid (W : List UInt8) (at_ : Nat) (c : UInt8) (rest : List UInt8) (hd : W.drop at_ = c :: rest) : numS W at_ 0 1 = (c.toNat, at_ + 1, 0) := by
  have hl : 1 ≤ W.length - at_ := by have := congrArg List.length hd; simp at this; omega
  unfold WireMath.numS
  rw [if_neg (by simp), if_neg (by omega), hd]
  simp [WireMath.beN]
theorem blob_laid (W : List UInt8) (at_ : Nat) (m : Nat) (p rest : List UInt8) (hd : W.drop at_ = uvarL p.length ++ (p ++ rest)) (hm : p.length ≤ m) (hp : p.length < 2 ^ 64) : blobS W at_ 0 m = (p, at_ + (uvarL p.length).length + p.length, 0) := by
  have hg : grpL (W.drop at_) = (p.length, (uvarL p.length).length) := by rw [hd]; exact grpL_laid _ _ hp
  have hpos : (uvarL p.length).length ≠ 0 := by have := WireMath.uvarF_pos 9 p.length; unfold WireMath.uvarL; omega
  have hl : W.length - at_ = (uvarL p.length).length + (p.length + rest.length) := by have := congrArg List.length hd; simpa using this
  unfold WireMath.blobS
  rw [if_neg (by simp), if_neg (by omega), hg]
  simp only
  rw [if_neg hpos, if_neg (by omega), if_neg (by omega)]
  have h2 : W.drop (at_ + (uvarL p.length).length) = p ++ rest := by rw [← List.drop_drop, hd, List.drop_left]
  rw [h2, List.take_left]
theorem uvar_laid (W : List UInt8) (at_ v : Nat) (rest : List UInt8) (hd : W.drop at_ = uvarL v ++ rest) (hv : v < 2 ^ 64) : uvarS W at_ 0 = (v, at_ + (uvarL v).length, 0) := by
  have hpos : (uvarL v).length ≠ 0 := by have := WireMath.uvarF_pos 9 v; unfold WireMath.uvarL; omega
  unfold WireMath.uvarS
  rw [if_neg (by simp), hd, grpL_laid _ _ hv]
  simp only
  rw [if_neg hpos]
theorem num1_back (W : List UInt8) (at_ v a : Nat) (h : numS W at_ 0 1 = (v, a, 0)) : ∃ c rest, W.drop at_ = c :: rest ∧ v = c.toNat ∧ a = at_ + 1 := by
  unfold WireMath.numS at h
  rw [if_neg (by simp)] at h
  split at h
  · simp at h
  · rename_i hl
    cases hd : W.drop at_ with
    | nil => have := congrArg List.length hd; simp at this; omega
    | cons c rest =>
      rw [hd] at h
      simp [WireMath.beN] at h
      exact ⟨c, rest, rfl, h.1.symm, h.2.symm⟩
theorem blob_back (W : List UInt8) (at_ : Nat) (m : Nat) (p : List UInt8) (a : Nat) (h : blobS W at_ 0 m = (p, a, 0)) : p.length ≤ m ∧ W.drop at_ = uvarL p.length ++ (p ++ W.drop a) ∧ a = at_ + (uvarL p.length).length + p.length := by
  unfold WireMath.blobS at h
  rw [if_neg (by simp), if_neg (by omega)] at h
  obtain ⟨y, k, hg⟩ : ∃ y k, grpL (W.drop at_) = (y, k) := ⟨_, _, rfl⟩
  rw [hg] at h
  simp only at h
  split at h
  · simp at h
  · rename_i hk
    obtain ⟨hkl, hkt⟩ := grpL_back _ _ _ hg hk
    split at h
    · simp at h
    · rename_i hm
      split at h
      · simp at h
      · rename_i hl
        injection h with h1 h2
        injection h2 with h2 h3
        rw [List.length_drop] at hkl
        have hpl : p.length = y := by rw [← h1, List.length_take, List.length_drop]; omega
        have hul : (uvarL y).length = k := by rw [← hkt, List.length_take, List.length_drop]; omega
        subst hpl
        refine ⟨by omega, ?_, by omega⟩
        have e1 : W.drop at_ = (W.drop at_).take k ++ (W.drop at_).drop k := (List.take_append_drop _ _).symm
        have e2 : (W.drop at_).drop k = W.drop (at_ + k) := List.drop_drop
        have e3 : W.drop (at_ + k) = (W.drop (at_ + k)).take p.length ++ (W.drop (at_ + k)).drop p.length := (List.take_append_drop _ _).symm
        have e4 : (W.drop (at_ + k)).drop p.length = W.drop (at_ + k + p.length) := List.drop_drop
        rw [e1, hkt, e2, e3, h1, e4, h2]
theorem uvar_back (W : List UInt8) (at_ v a : Nat) (h : uvarS W at_ 0 = (v, a, 0)) : W.drop at_ = uvarL v ++ W.drop a ∧ a = at_ + (uvarL v).length ∧ a ≤ max at_ W.length := by
  unfold WireMath.uvarS at h
  rw [if_neg (by simp)] at h
  obtain ⟨y, k, hg⟩ : ∃ y k, grpL (W.drop at_) = (y, k) := ⟨_, _, rfl⟩
  rw [hg] at h
  simp only at h
  injection h with h1 h2
  injection h2 with h2 h3
  have hk : k ≠ 0 := fun e => by rw [if_pos e] at h3; omega
  obtain ⟨hkl, hkt⟩ := grpL_back _ _ _ hg hk
  rw [List.length_drop] at hkl
  subst h1
  have hul : (uvarL y).length = k := by rw [← hkt, List.length_take, List.length_drop]; omega
  refine ⟨?_, by omega, by omega⟩
  have e1 : W.drop at_ = (W.drop at_).take k ++ (W.drop at_).drop k := (List.take_append_drop _ _).symm
  have e2 : (W.drop at_).drop k = W.drop (at_ + k) := List.drop_drop
  rw [e1, hkt, e2, h2]
/-- L1: an entry that was laid is taken off -/
theorem entS_laid (W : List UInt8) (at_ : Nat) (e : En) (rest : List UInt8) (hd : W.drop at_ = encL e ++ rest) (hc : chkF e = 0) : entS W at_ = ⟨0, e, at_ + (encL e).length⟩ := by
  obtain ⟨h1, h2, h3, h4⟩ := chk_small e hc
  obtain ⟨k, K, V⟩ := e
  simp only at h1 h2 h3 h4
  have hd0 : W.drop at_ = UInt8.ofNat k :: ((uvarL K.length ++ K) ++ ((if k = 1 then uvarL V.length ++ V else []) ++ rest)) := by rw [hd]; unfold encL; simp
  have hn : numS W at_ 0 1 = (k, at_ + 1, 0) := by
    rw [num1_laid _ _ _ _ hd0]
    have : (UInt8.ofNat k).toNat = k := by rw [UInt8.toNat_ofNat']; omega
    rw [this]
  have hd1 : W.drop (at_ + 1) = uvarL K.length ++ (K ++ ((if k = 1 then uvarL V.length ++ V else []) ++ rest)) := by
    rw [← List.drop_drop, hd0]; simp
  have hb1 : blobS W (at_ + 1) 0 64 = (K, at_ + 1 + (uvarL K.length).length + K.length, 0) := blob_laid W (at_ + 1) 64 K _ hd1 h1 (by omega)
  unfold entS
  rw [hn]
  simp only
  rw [if_neg (by simp), if_neg (by omega), hb1]
  simp only
  rw [if_neg (by simp)]
  rcases h3 with rfl | rfl
  · rw [if_pos rfl]
    have hd2 : W.drop (at_ + 1 + (uvarL K.length).length + K.length) = uvarL V.length ++ (V ++ rest) := by
      rw [Nat.add_assoc, ← List.drop_drop, hd1, ← List.append_assoc, List.drop_append, List.drop_eq_nil_of_le (by simp)]
      simp
    have hb2 : blobS W (at_ + 1 + (uvarL K.length).length + K.length) 0 256 = (V, at_ + 1 + (uvarL K.length).length + K.length + (uvarL V.length).length + V.length, 0) := blob_laid W _ 256 V _ hd2 h2 (by omega)
    rw [hb2]
    simp only
    rw [if_neg (by simp)]
    congr 1
    unfold encL; simp; omega
  · rw [if_neg (by decide)]
    rw [h4 rfl]
    congr 1
    unfold encL; simp; omega
/-- B1: what was taken off for an entry are its bytes -/
theorem entS_back (W : List UInt8) (at_ : Nat) (t : Ent) (ht : entS W at_ = t) (he : t.e = 0) : chkF t.v = 0 ∧ W.drop at_ = encL t.v ++ W.drop t.at_ ∧ t.at_ = at_ + (encL t.v).length := by
  unfold entS at ht
  obtain ⟨k, a1, e1, h1⟩ : ∃ k a1 e1, numS W at_ 0 1 = (k, a1, e1) := ⟨_, _, _, rfl⟩
  rw [h1] at ht
  simp only at ht
  split at ht
  · rename_i h; subst ht; exact absurd he h
  · rename_i h
    have h' : e1 = 0 := by omega
    subst h'
    obtain ⟨c, rest, hd, hk, ha1⟩ := num1_back _ _ _ _ h1
    split at ht
    · subst ht; exact absurd he (by simp [entNo])
    · rename_i hk12
      obtain ⟨K, a2, e2, h2⟩ : ∃ K a2 e2, blobS W a1 0 64 = (K, a2, e2) := ⟨_, _, _, rfl⟩
      rw [h2] at ht
      simp only at ht
      split at ht
      · rename_i h; subst ht; exact absurd he h
      · rename_i h3
        have h3' : e2 = 0 := by omega
        subst h3'
        obtain ⟨hK, hdK, ha2⟩ := blob_back W a1 64 K a2 h2
        have hd1 : W.drop at_ = c :: W.drop a1 := by
          rw [ha1, ← List.drop_drop, hd]; simp
        have hc : UInt8.ofNat k = c := by rw [hk]; exact UInt8.ofNat_toNat
        split at ht
        · rename_i hk1
          obtain ⟨V, a3, e3, h4⟩ : ∃ V a3 e3, blobS W a2 0 256 = (V, a3, e3) := ⟨_, _, _, rfl⟩
          rw [h4] at ht
          simp only at ht
          split at ht
          · rename_i h; subst ht; exact absurd he h
          · rename_i h5
            have h5' : e3 = 0 := by omega
            subst h5'
            obtain ⟨hV, hdV, ha3⟩ := blob_back W a2 256 V a3 h4
            subst ht
            refine ⟨?_, ?_, ?_⟩
            · unfold chkF; simp only; rw [if_neg (by omega), if_neg (by omega)]
            · simp only
              rw [hd1, hdK, hdV]
              unfold encL
              simp only
              have hc1 : UInt8.ofNat 1 = c := by rw [← hk1]; exact hc
              rw [hc1]; simp
            · simp only; unfold encL; simp; omega
        · rename_i hk1
          have hk2 : k = 2 := by omega
          subst ht
          refine ⟨?_, ?_, ?_⟩
          · unfold chkF; simp only; rw [if_neg (by simp; omega), if_neg (by simp)]
          · simp only
            rw [hd1, hdK]
            unfold encL
            simp only
            have hc1 : UInt8.ofNat 2 = c := by rw [← hk2]; exact hc
            rw [hc1]; simp
          · simp only; unfold encL; simp; omega
/-- L2: a list of entries that was laid is taken off -/
theorem entsS_laid (W : List UInt8) : ∀ (l : List En) (at_ : Nat) (rest : List UInt8), W.drop at_ = l.flatMap encL ++ rest → (∀ x ∈ l, chkF x = 0) → entsS W l.length at_ = ⟨0, l, at_ + (l.flatMap encL).length⟩
  | [], at_, rest, _, _ => by simp [entsS]
  | e :: l, at_, rest, hd, hc => by
    have h1 := entS_laid W at_ e (l.flatMap encL ++ rest) (by rw [hd]; simp) (hc e (List.mem_cons_self ..))
    have hd2 : W.drop (at_ + (encL e).length) = l.flatMap encL ++ rest := by rw [← List.drop_drop, hd]; simp
    have h2 := entsS_laid W l _ rest hd2 fun x hx => hc x (List.mem_cons_of_mem _ hx)
    rw [List.length_cons, entsS, h1]
    simp only
    rw [if_neg (by simp), h2]
    simp only [List.flatMap_cons, List.length_append]
    congr 1; omega
theorem entsS_back (W : List UInt8) : ∀ (n at_ : Nat) (t : EntL), entsS W n at_ = t → t.e = 0 → t.l.length = n ∧ (∀ x ∈ t.l, chkF x = 0) ∧ W.drop at_ = t.l.flatMap encL ++ W.drop t.at_ ∧ t.at_ = at_ + (t.l.flatMap encL).length
  | 0, at_, t, ht, _ => by
    unfold entsS at ht
    subst ht
    simp
  | n + 1, at_, t, ht, he => by
    unfold entsS at ht
    split at ht
    · rename_i h; subst ht; exact absurd he h
    · rename_i h
      obtain ⟨b1, b2, b3⟩ := entS_back W at_ _ rfl (by omega)
      obtain ⟨c0, c1, c2, c3⟩ := entsS_back W n (entS W at_).at_ _ rfl (by subst ht; exact he)
      subst ht
      refine ⟨by simp [c0], fun x hx => ?_, ?_, ?_⟩
      · rcases List.mem_cons.1 hx with rfl | hx
        · exact b1
        · exact c1 x hx
      · simp only [List.flatMap_cons, List.append_assoc]
        rw [b2, ← c2]
      · simp only [List.flatMap_cons, List.length_append]
        rw [c3, b3]; omega
end Go.Proofs.Ytelecdncdaepnaa
