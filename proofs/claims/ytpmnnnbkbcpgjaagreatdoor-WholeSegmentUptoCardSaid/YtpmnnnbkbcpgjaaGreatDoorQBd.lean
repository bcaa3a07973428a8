import Derived.Test.YtpmnnnbkbcpgjaaGreatDoorQBa
import Derived.Test.YtpmnnnbkbcpgjaaGreatDoorQBc
/- Plain laws on numbers laid as bytes and taken off again. No program stands here. -/
namespace Go.Proofs.YtpmnnnbkbcpgjaaGreatDoor
open WireMath (byteAt wideL beN grpTo grpL uvarF uvarL grp lst numS uvarS rawS blobS)

theorem foldl_be (l : List UInt8) : ∀ a : Nat, l.foldl (fun v c => v * 256 + c.toNat) a = a * 256 ^ l.length + beN l := by
  induction l with
  | nil => intro a; simp [WireMath.beN]
  | cons c l ih =>
    intro a
    have h0 : beN (c :: l) = (0 * 256 + c.toNat) * 256 ^ l.length + beN l := by
      show (c :: l).foldl _ 0 = _
      rw [List.foldl_cons, ih]
    rw [h0, List.foldl_cons, ih, List.length_cons, Nat.pow_succ, Nat.add_mul, Nat.zero_mul, Nat.zero_add]
    rw [Nat.mul_assoc a, Nat.mul_comm 256, Nat.add_assoc]
theorem beN_cons (c : UInt8) (l : List UInt8) : beN (c :: l) = c.toNat * 256 ^ l.length + beN l := by
  show (c :: l).foldl _ 0 = _
  rw [List.foldl_cons, foldl_be]; simp
theorem beN_wideL (v : Nat) : ∀ n, beN (wideL v n) = v % 256 ^ n := by
  intro n
  induction n with
  | zero => simp [WireMath.wideL, WireMath.beN, Nat.mod_one]
  | succ n ih =>
    have hb : (byteAt v n).toNat = v / 256 ^ n % 256 := by
      unfold WireMath.byteAt
      rw [UInt8.toNat_ofNat', show (256 : Nat) ^ n = 2 ^ (8 * n) by rw [Nat.pow_mul]]
    rw [show wideL v (n + 1) = byteAt v n :: wideL v n from rfl, beN_cons, ih, WireMath.wideL_length, hb, Nat.mod_pow_succ, Nat.mul_comm]
    omega

theorem wideL_low (a b : Nat) : ∀ n, wideL (a * 256 ^ n + b) n = wideL b n := by
  intro n
  suffices h : ∀ m, m ≤ n → wideL (a * 256 ^ n + b) m = wideL b m from h n (Nat.le_refl _)
  intro m
  induction m with
  | zero => intro _; rfl
  | succ m ih =>
    intro hm
    simp only [WireMath.wideL]
    rw [ih (by omega)]
    congr 1
    unfold WireMath.byteAt
    apply UInt8.toNat_inj.1
    rw [UInt8.toNat_ofNat', UInt8.toNat_ofNat', show (2 : Nat) ^ (8 * m) = 256 ^ m by rw [Nat.pow_mul]]
    have e : a * 256 ^ n = 256 ^ m * (a * 256 ^ (n - m - 1) * 256) := by
      have : 256 ^ n = 256 ^ m * (256 ^ (n - m - 1) * 256) := by
        rw [← Nat.pow_succ, ← Nat.pow_add]; congr 1; omega
      rw [this, Nat.mul_left_comm, Nat.mul_assoc]
    rw [e, Nat.mul_add_div (Nat.pow_pos (by decide))]
    omega
theorem wideL_beN : ∀ l : List UInt8, wideL (beN l) l.length = l := by
  intro l
  induction l with
  | nil => rfl
  | cons c l ih =>
    have h := WireMath.beN_lt l l.length (Nat.le_refl _)
    rw [beN_cons, List.length_cons]
    simp only [WireMath.wideL]
    rw [wideL_low, ih]
    congr 1
    unfold WireMath.byteAt
    apply UInt8.toNat_inj.1
    rw [UInt8.toNat_ofNat', show (2 : Nat) ^ (8 * l.length) = 256 ^ l.length by rw [Nat.pow_mul], Nat.mul_comm, Nat.mul_add_div (Nat.pow_pos (by decide)), Nat.div_eq_of_lt h]
    have := c.toNat_lt
    omega

theorem grp_toNat (x : Nat) : (grp x).toNat = x % 128 + 128 := by
  unfold WireMath.grp; rw [UInt8.toNat_ofNat']; omega
theorem lst_toNat (x : Nat) (h : x < 128) : (lst x).toNat = x := by
  unfold WireMath.lst; rw [UInt8.toNat_ofNat']; omega
theorem u8_zero (c : UInt8) : c = 0 ↔ c.toNat = 0 := ⟨fun h => by rw [h]; rfl, fun h => UInt8.toNat_inj.1 h⟩
theorem u8_one (c : UInt8) : c = 1 ↔ c.toNat = 1 := ⟨fun h => by rw [h]; rfl, fun h => UInt8.toNat_inj.1 h⟩
/-- groups that were laid are read as the number -/
theorem grpTo_laid (rest : List UInt8) : ∀ f i x acc, i + f = 9 → x * 128 ^ i < 2 ^ 64 → (0 < i → 0 < x) → grpTo i acc (uvarF f x ++ rest) = (acc + x * 128 ^ i, i + (uvarF f x).length) := by
  intro f
  induction f with
  | zero =>
    intro i x acc hi hx h0
    obtain rfl : i = 9 := by omega
    have hp : (128 : Nat) ^ 9 = 9223372036854775808 := by decide
    have hx1 : x = 1 := by have := h0 (by decide); rw [hp] at hx; omega
    subst hx1
    have hl := lst_toNat 1 (by decide)
    simp only [WireMath.uvarF, List.cons_append, List.nil_append, WireMath.grpTo]
    rw [if_neg (by simp only [ne_eq, u8_one, u8_zero, hl]; decide), if_pos (by rw [hl]; decide), hl]
    simp
  | succ f ih =>
    intro i x acc hi hx h0
    simp only [WireMath.uvarF]
    by_cases hlt : x < 128
    · rw [if_pos hlt]
      have hl := lst_toNat x hlt
      simp only [List.cons_append, List.nil_append, WireMath.grpTo]
      rw [if_neg (by simp only [ne_eq, u8_one, u8_zero, hl]; omega), if_pos (by rw [hl]; exact hlt), hl, Nat.mod_eq_of_lt hlt]
      simp
    · rw [if_neg hlt]
      have hg := grp_toNat x
      have hx2 : x / 128 * 128 ^ (i + 1) ≤ x * 128 ^ i := by
        rw [Nat.pow_succ, Nat.mul_comm (128 ^ i), ← Nat.mul_assoc]
        exact Nat.mul_le_mul_right _ (Nat.div_mul_le_self x 128)
      simp only [List.cons_append, WireMath.grpTo]
      rw [if_neg (by simp only [ne_eq, u8_one, u8_zero, hg]; omega), if_neg (by rw [hg]; omega), hg, ih (i + 1) (x / 128) _ (by omega) (by omega) (fun _ => by omega)]
      have e : acc + (x % 128 + 128) % 128 * 128 ^ i + x / 128 * 128 ^ (i + 1) = acc + x * 128 ^ i := by
        have h1 : (x % 128 + 128) % 128 = x % 128 := by omega
        have h2 : x / 128 * 128 ^ (i + 1) = (128 * (x / 128)) * 128 ^ i := by rw [Nat.pow_succ, Nat.mul_comm (128 ^ i), ← Nat.mul_assoc, Nat.mul_comm (x / 128) 128]
        rw [h1, h2, Nat.add_assoc, ← Nat.add_mul, Nat.mod_add_div]
      rw [e]
      simp only [List.length_cons]
      congr 1
      omega
theorem grpTo_cut : ∀ f i x acc m, i + f = 9 → m < (uvarF f x).length → grpTo i acc ((uvarF f x).take m) = (0, 0) := by
  intro f
  induction f with
  | zero =>
    intro i x acc m hi hm
    simp only [WireMath.uvarF, List.length_singleton] at hm
    obtain rfl : m = 0 := by omega
    rfl
  | succ f ih =>
    intro i x acc m hi hm
    cases m with
    | zero => rfl
    | succ m =>
      simp only [WireMath.uvarF] at hm ⊢
      by_cases hlt : x < 128
      · rw [if_pos hlt] at hm; simp at hm
      · rw [if_neg hlt] at hm ⊢
        have hg := grp_toNat x
        simp only [List.take_succ_cons, WireMath.grpTo]
        rw [if_neg (by simp only [ne_eq, u8_one, u8_zero, hg]; omega), if_neg (by rw [hg]; omega)]
        exact ih (i + 1) (x / 128) _ m (by omega) (by simpa using hm)
theorem grpTo_back (l : List UInt8) : ∀ i acc y k, i ≤ 9 → grpTo i acc l = (y, k) → k ≠ 0 → ∃ x, y = acc + x * 128 ^ i ∧ (0 < i → 0 < x) ∧ i < k ∧ k - i ≤ l.length ∧ l.take (k - i) = uvarF (9 - i) x := by
  induction l with
  | nil => intro i acc y k _ h hk; simp only [WireMath.grpTo, Prod.mk.injEq] at h; exact absurd h.2.symm hk
  | cons c l ih =>
    intro i acc y k hi h hk
    have hc := c.toNat_lt
    simp only [WireMath.grpTo] at h
    by_cases h1 : (i = 9 ∧ c ≠ 1) ∨ (0 < i ∧ c = 0)
    · rw [if_pos h1] at h; simp only [Prod.mk.injEq] at h; exact absurd h.2.symm hk
    · rw [if_neg h1] at h
      simp only [ne_eq, u8_one, u8_zero] at h1
      by_cases h2 : c.toNat < 128
      · rw [if_pos h2] at h
        simp only [Prod.mk.injEq] at h
        obtain ⟨rfl, rfl⟩ := h
        refine ⟨c.toNat, by rw [Nat.mod_eq_of_lt h2], fun h => by omega, by omega, by simp, ?_⟩
        have e : lst c.toNat = c := by unfold WireMath.lst; simp
        rw [show i + 1 - i = 1 by omega]
        cases 9 - i with
        | zero => simp [WireMath.uvarF, e]
        | succ f => simp [WireMath.uvarF, h2, e]
      · rw [if_neg h2] at h
        obtain ⟨x, hy, hx, hik, hkl, ht⟩ := ih (i + 1) _ y k (by omega) h hk
        have hx0 := hx (by omega)
        refine ⟨c.toNat % 128 + 128 * x, ?_, fun _ => by omega, by omega, by simp; omega, ?_⟩
        · rw [hy, Nat.add_mul, Nat.add_assoc, Nat.pow_succ, Nat.mul_comm (128 ^ i), ← Nat.mul_assoc, Nat.mul_comm x 128]
        · rw [show k - i = (k - (i + 1)) + 1 by omega, List.take_succ_cons, ht, show 9 - i = (9 - (i + 1)) + 1 by omega]
          simp only [WireMath.uvarF]
          rw [if_neg (by omega)]
          have e1 : grp (c.toNat % 128 + 128 * x) = c := by
            apply UInt8.toNat_inj.1
            rw [grp_toNat]; omega
          have e2 : (c.toNat % 128 + 128 * x) / 128 = x := by omega
          rw [e1, e2]

theorem grpL_laid (v : Nat) (rest : List UInt8) (hv : v < 2 ^ 64) : grpL (uvarL v ++ rest) = (v, (uvarL v).length) := by
  have := grpTo_laid rest 9 0 v 0 rfl (by simpa using hv) (fun h => absurd h (by decide))
  unfold WireMath.grpL WireMath.uvarL
  rw [this]; simp
theorem grpL_cut (v m : Nat) (hm : m < (uvarL v).length) : grpL ((uvarL v).take m) = (0, 0) := grpTo_cut 9 0 v 0 m rfl hm
theorem grpL_back (l : List UInt8) (y k : Nat) (h : grpL l = (y, k)) (hk : k ≠ 0) : k ≤ l.length ∧ l.take k = uvarL y := by
  obtain ⟨x, hy, _, _, hl, ht⟩ := grpTo_back l 0 0 y k (by decide) h hk
  simp at hy
  subst hy
  exact ⟨by simpa using hl, by rw [Nat.sub_zero] at ht; exact ht⟩
end Go.Proofs.YtpmnnnbkbcpgjaaGreatDoor

/- Plain laws of layer 5: what is laid is taken off again; what was taken off are the only bytes. -/
namespace Go.Proofs.YtpmnnnbkbcpgjaaGreatDoor
open WireMath (numS beN rawS blobS uvarS grpL uvarL wideL)

theorem num1_laid (W : List UInt8) (at_ : Nat) (c : UInt8) (rest : List UInt8) (hd : W.drop at_ = c :: rest) : numS W at_ 0 1 = (c.toNat, at_ + 1, 0) := by
  have hl : 1 ≤ W.length - at_ := by have := congrArg List.length hd; simp at this; omega
  unfold WireMath.numS
  rw [if_neg (by simp), if_neg (by omega), hd]
  simp [WireMath.beN]
theorem blob_laid (W : List UInt8) (at_ : Nat) (m : Nat) (p rest : List UInt8) (hd : W.drop at_ = uvarL p.length ++ (p ++ rest)) (hm : p.length ≤ m) (hp : p.length < 2 ^ 64) : blobS W at_ 0 m = (p, at_ + (uvarL p.length).length + p.length, 0) := by
  have hg : grpL (W.drop at_) = (p.length, (uvarL p.length).length) := by rw [hd]; exact grpL_laid _ _ hp
  have hpos : (uvarL p.length).length ≠ 0 := by have := WireMath.uvarF_pos 9 p.length; unfold WireMath.uvarL; omega
  have hl : W.length - at_ = (uvarL p.length).length + (p.length + rest.length) := by have := congrArg List.length hd; simpa using this
  unfold WireMath.blobS
  rw [if_neg (by simp), if_neg (by omega), hg]
  simp only
  rw [if_neg hpos, if_neg (by omega), if_neg (by omega)]
  have h2 : W.drop (at_ + (uvarL p.length).length) = p ++ rest := by rw [← List.drop_drop, hd, List.drop_left]
  rw [h2, List.take_left]
theorem uvar_laid (W : List UInt8) (at_ v : Nat) (rest : List UInt8) (hd : W.drop at_ = uvarL v ++ rest) (hv : v < 2 ^ 64) : uvarS W at_ 0 = (v, at_ + (uvarL v).length, 0) := by
  have hpos : (uvarL v).length ≠ 0 := by have := WireMath.uvarF_pos 9 v; unfold WireMath.uvarL; omega
  unfold WireMath.uvarS
  rw [if_neg (by simp), hd, grpL_laid _ _ hv]
  simp only
  rw [if_neg hpos]
theorem num1_back (W : List UInt8) (at_ v a : Nat) (h : numS W at_ 0 1 = (v, a, 0)) : ∃ c rest, W.drop at_ = c :: rest ∧ v = c.toNat ∧ a = at_ + 1 := by
  unfold WireMath.numS at h
  rw [if_neg (by simp)] at h
  split at h
  · simp at h
  · rename_i hl
    cases hd : W.drop at_ with
    | nil => have := congrArg List.length hd; simp at this; omega
    | cons c rest =>
      rw [hd] at h
      simp [WireMath.beN] at h
      exact ⟨c, rest, rfl, h.1.symm, h.2.symm⟩
theorem blob_back (W : List UInt8) (at_ : Nat) (m : Nat) (p : List UInt8) (a : Nat) (h : blobS W at_ 0 m = (p, a, 0)) : p.length ≤ m ∧ W.drop at_ = uvarL p.length ++ (p ++ W.drop a) ∧ a = at_ + (uvarL p.length).length + p.length := by
  unfold WireMath.blobS at h
  rw [if_neg (by simp), if_neg (by omega)] at h
  obtain ⟨y, k, hg⟩ : ∃ y k, grpL (W.drop at_) = (y, k) := ⟨_, _, rfl⟩
  rw [hg] at h
  simp only at h
  split at h
  · simp at h
  · rename_i hk
    obtain ⟨hkl, hkt⟩ := grpL_back _ _ _ hg hk
    split at h
    · simp at h
    · rename_i hm
      split at h
      · simp at h
      · rename_i hl
        injection h with h1 h2
        injection h2 with h2 h3
        rw [List.length_drop] at hkl
        have hpl : p.length = y := by rw [← h1, List.length_take, List.length_drop]; omega
        have hul : (uvarL y).length = k := by rw [← hkt, List.length_take, List.length_drop]; omega
        subst hpl
        refine ⟨by omega, ?_, by omega⟩
        have e1 : W.drop at_ = (W.drop at_).take k ++ (W.drop at_).drop k := (List.take_append_drop _ _).symm
        have e2 : (W.drop at_).drop k = W.drop (at_ + k) := List.drop_drop
        have e3 : W.drop (at_ + k) = (W.drop (at_ + k)).take p.length ++ (W.drop (at_ + k)).drop p.length := (List.take_append_drop _ _).symm
        have e4 : (W.drop (at_ + k)).drop p.length = W.drop (at_ + k + p.length) := List.drop_drop
        rw [e1, hkt, e2, e3, h1, e4, h2]
theorem uvar_back (W : List UInt8) (at_ v a : Nat) (h : uvarS W at_ 0 = (v, a, 0)) : W.drop at_ = uvarL v ++ W.drop a ∧ a = at_ + (uvarL v).length ∧ a ≤ max at_ W.length := by
  unfold WireMath.uvarS at h
  rw [if_neg (by simp)] at h
  obtain ⟨y, k, hg⟩ : ∃ y k, grpL (W.drop at_) = (y, k) := ⟨_, _, rfl⟩
  rw [hg] at h
  simp only at h
  injection h with h1 h2
  injection h2 with h2 h3
  have hk : k ≠ 0 := fun e => by rw [if_pos e] at h3; omega
  obtain ⟨hkl, hkt⟩ := grpL_back _ _ _ hg hk
  rw [List.length_drop] at hkl
  subst h1
  have hul : (uvarL y).length = k := by rw [← hkt, List.length_take, List.length_drop]; omega
  refine ⟨?_, by omega, by omega⟩
  have e1 : W.drop at_ = (W.drop at_).take k ++ (W.drop at_).drop k := (List.take_append_drop _ _).symm
  have e2 : (W.drop at_).drop k = W.drop (at_ + k) := List.drop_drop
  rw [e1, hkt, e2, h2]
/-- L1: an entry that was laid is taken off -/
theorem entS_laid (W : List UInt8) (at_ : Nat) (e : En) (rest : List UInt8) (hd : W.drop at_ = encL e ++ rest) (hc : chkF e = 0) : entS W at_ = ⟨0, e, at_ + (encL e).length⟩ := by
  obtain ⟨h1, h2, h3, h4⟩ := chk_small e hc
  obtain ⟨k, K, V⟩ := e
  simp only at h1 h2 h3 h4
  have hd0 : W.drop at_ = UInt8.ofNat k :: ((uvarL K.length ++ K) ++ ((if k = 1 then uvarL V.length ++ V else []) ++ rest)) := by rw [hd]; unfold encL; simp
  have hn : numS W at_ 0 1 = (k, at_ + 1, 0) := by
    rw [num1_laid _ _ _ _ hd0]
    have : (UInt8.ofNat k).toNat = k := by rw [UInt8.toNat_ofNat']; omega
    rw [this]
  have hd1 : W.drop (at_ + 1) = uvarL K.length ++ (K ++ ((if k = 1 then uvarL V.length ++ V else []) ++ rest)) := by
    rw [← List.drop_drop, hd0]; simp
  have hb1 : blobS W (at_ + 1) 0 64 = (K, at_ + 1 + (uvarL K.length).length + K.length, 0) := blob_laid W (at_ + 1) 64 K _ hd1 h1 (by omega)
  unfold entS
  rw [hn]
  simp only
  rw [if_neg (by simp), if_neg (by omega), hb1]
  simp only
  rw [if_neg (by simp)]
  rcases h3 with rfl | rfl
  · rw [if_pos rfl]
    have hd2 : W.drop (at_ + 1 + (uvarL K.length).length + K.length) = uvarL V.length ++ (V ++ rest) := by
      rw [Nat.add_assoc, ← List.drop_drop, hd1, ← List.append_assoc, List.drop_append, List.drop_eq_nil_of_le (by simp)]
      simp
    have hb2 : blobS W (at_ + 1 + (uvarL K.length).length + K.length) 0 256 = (V, at_ + 1 + (uvarL K.length).length + K.length + (uvarL V.length).length + V.length, 0) := blob_laid W _ 256 V _ hd2 h2 (by omega)
    rw [hb2]
    simp only
    rw [if_neg (by simp)]
    congr 1
    unfold encL; simp; omega
  · rw [if_neg (by decide)]
    rw [h4 rfl]
    congr 1
    unfold encL; simp; omega
/-- B1: what was taken off for an entry are its bytes -/
theorem entS_back (W : List UInt8) (at_ : Nat) (t : Ent) (ht : entS W at_ = t) (he : t.e = 0) : chkF t.v = 0 ∧ W.drop at_ = encL t.v ++ W.drop t.at_ ∧ t.at_ = at_ + (encL t.v).length := by
  unfold entS at ht
  obtain ⟨k, a1, e1, h1⟩ : ∃ k a1 e1, numS W at_ 0 1 = (k, a1, e1) := ⟨_, _, _, rfl⟩
  rw [h1] at ht
  simp only at ht
  split at ht
  · rename_i h; subst ht; exact absurd he h
  · rename_i h
    have h' : e1 = 0 := by omega
    subst h'
    obtain ⟨c, rest, hd, hk, ha1⟩ := num1_back _ _ _ _ h1
    split at ht
    · subst ht; exact absurd he (by simp [entNo])
    · rename_i hk12
      obtain ⟨K, a2, e2, h2⟩ : ∃ K a2 e2, blobS W a1 0 64 = (K, a2, e2) := ⟨_, _, _, rfl⟩
      rw [h2] at ht
      simp only at ht
      split at ht
      · rename_i h; subst ht; exact absurd he h
      · rename_i h3
        have h3' : e2 = 0 := by omega
        subst h3'
        obtain ⟨hK, hdK, ha2⟩ := blob_back W a1 64 K a2 h2
        have hd1 : W.drop at_ = c :: W.drop a1 := by
          rw [ha1, ← List.drop_drop, hd]; simp
        have hc : UInt8.ofNat k = c := by rw [hk]; exact UInt8.ofNat_toNat
        split at ht
        · rename_i hk1
          obtain ⟨V, a3, e3, h4⟩ : ∃ V a3 e3, blobS W a2 0 256 = (V, a3, e3) := ⟨_, _, _, rfl⟩
          rw [h4] at ht
          simp only at ht
          split at ht
          · rename_i h; subst ht; exact absurd he h
          · rename_i h5
            have h5' : e3 = 0 := by omega
            subst h5'
            obtain ⟨hV, hdV, ha3⟩ := blob_back W a2 256 V a3 h4
            subst ht
            refine ⟨?_, ?_, ?_⟩
            · unfold chkF; simp only; rw [if_neg (by omega), if_neg (by omega)]
            · simp only
              rw [hd1, hdK, hdV]
              unfold encL
              simp only
              have hc1 : UInt8.ofNat 1 = c := by rw [← hk1]; exact hc
              rw [hc1]; simp
            · simp only; unfold encL; simp; omega
        · rename_i hk1
          have hk2 : k = 2 := by omega
          subst ht
          refine ⟨?_, ?_, ?_⟩
          · unfold chkF; simp only; rw [if_neg (by simp; omega), if_neg (by simp)]
          · simp only
            rw [hd1, hdK]
            unfold encL
            simp only
            have hc1 : UInt8.ofNat 2 = c := by rw [← hk2]; exact hc
            rw [hc1]; simp
          · simp only; unfold encL; simp; omega
/-- L2: a list of entries that was laid is taken off -/
theorem entsS_laid (W : List UInt8) : ∀ (l : List En) (at_ : Nat) (rest : List UInt8), W.drop at_ = l.flatMap encL ++ rest → (∀ x ∈ l, chkF x = 0) → entsS W l.length at_ = ⟨0, l, at_ + (l.flatMap encL).length⟩
  | [], at_, rest, _, _ => by simp [entsS]
  | e :: l, at_, rest, hd, hc => by
    have h1 := entS_laid W at_ e (l.flatMap encL ++ rest) (by rw [hd]; simp) (hc e (List.mem_cons_self ..))
    have hd2 : W.drop (at_ + (encL e).length) = l.flatMap encL ++ rest := by rw [← List.drop_drop, hd]; simp
    have h2 := entsS_laid W l _ rest hd2 fun x hx => hc x (List.mem_cons_of_mem _ hx)
    rw [List.length_cons, entsS, h1]
    simp only
    rw [if_neg (by simp), h2]
    simp only [List.flatMap_cons, List.length_append]
    congr 1; omega
theorem entsS_back (W : List UInt8) : ∀ (n at_ : Nat) (t : EntL), entsS W n at_ = t → t.e = 0 → t.l.length = n ∧ (∀ x ∈ t.l, chkF x = 0) ∧ W.drop at_ = t.l.flatMap encL ++ W.drop t.at_ ∧ t.at_ = at_ + (t.l.flatMap encL).length
  | 0, at_, t, ht, _ => by
    unfold entsS at ht
    subst ht
    simp
  | n + 1, at_, t, ht, he => by
    unfold entsS at ht
    split at ht
    · rename_i h; subst ht; exact absurd he h
    · rename_i h
      obtain ⟨b1, b2, b3⟩ := entS_back W at_ _ rfl (by omega)
      obtain ⟨c0, c1, c2, c3⟩ := entsS_back W n (entS W at_).at_ _ rfl (by subst ht; exact he)
      subst ht
      refine ⟨by simp [c0], fun x hx => ?_, ?_, ?_⟩
      · rcases List.mem_cons.1 hx with rfl | hx
        · exact b1
        · exact c1 x hx
      · simp only [List.flatMap_cons, List.append_assoc]
        rw [b2, ← c2]
      · simp only [List.flatMap_cons, List.length_append]
        rw [c3, b3]; omega
end Go.Proofs.YtpmnnnbkbcpgjaaGreatDoor

/- Plain laws of layer 5: batches. -/
namespace Go.Proofs.YtpmnnnbkbcpgjaaGreatDoor
open WireMath (numS beN rawS blobS uvarS grpL uvarL wideL)

theorem errB_ok (f : Nat) (l : List En) (h0 : l.length ≠ 0) (h1 : f + l.length < 18446744073709551616) (h2 : l.length ≤ 64) (h3 : ∀ x ∈ l, chkF x = 0) : errB f l.length l = 0 := by
  unfold errB
  have e0 : err0 f l.length = 0 := by unfold err0; rw [if_neg (by omega), if_neg (by omega)]
  rw [e0]
  clear h0 h1 h2 e0
  induction l with
  | nil => rfl
  | cons y l ih =>
    rw [List.foldl_cons, h3 y (List.mem_cons_self ..)]
    exact ih fun x hx => h3 x (List.mem_cons_of_mem _ hx)
theorem encBF_ok (f : Nat) (l : List En) (q : List UInt8) (h : encBF f l = (q, 0)) : q = encBL f l ∧ l.length ≠ 0 ∧ f + l.length < 18446744073709551616 ∧ l.length ≤ 64 ∧ ∀ x ∈ l, chkF x = 0 := by
  unfold encBF at h
  split at h
  · rename_i hz
    injection h with h1 _
    unfold errB at hz
    obtain ⟨z1, z2⟩ := fold_zero _ _ hz
    obtain ⟨y1, y2, y3⟩ := err0_zero _ _ z1
    exact ⟨h1.symm, y1, y2, y3, z2⟩
  · rename_i hz
    injection h with _ h2
    exact absurd h2 hz
/-- what is read off a batch's bytes, and all behind them -/
theorem decB_pre (f : Nat) (l : List En) (rest : List UInt8) (h0 : l.length ≠ 0) (h1 : f + l.length < 18446744073709551616) (h2 : l.length ≤ 64) (h3 : ∀ x ∈ l, chkF x = 0) :
    decB (encBL f l ++ rest) = if rest = [] then ⟨0, f, l⟩ else batNo 3 := by
  have u1 : uvarS (encBL f l ++ rest) 0 0 = (f, 0 + (uvarL f).length, 0) := uvar_laid _ 0 f (uvarL l.length ++ l.flatMap encL ++ rest) (by unfold encBL; simp) (by omega)
  have hd2 : (encBL f l ++ rest).drop (0 + (uvarL f).length) = uvarL l.length ++ (l.flatMap encL ++ rest) := by unfold encBL; simp
  have u2 : uvarS (encBL f l ++ rest) (0 + (uvarL f).length) 0 = (l.length, 0 + (uvarL f).length + (uvarL l.length).length, 0) := uvar_laid _ _ l.length _ hd2 (by omega)
  have hd3 : (encBL f l ++ rest).drop (0 + (uvarL f).length + (uvarL l.length).length) = l.flatMap encL ++ rest := by rw [← List.drop_drop, hd2]; simp
  have u3 := entsS_laid (encBL f l ++ rest) l _ rest hd3 h3
  have hlen : (encBL f l ++ rest).length = 0 + (uvarL f).length + (uvarL l.length).length + (l.flatMap encL).length + rest.length := by unfold encBL; simp; omega
  unfold decB
  rw [u1]
  simp only
  rw [if_neg (by simp), u2]
  simp only
  rw [if_neg (by simp), if_neg (by omega), if_neg (by omega)]
  unfold batF
  rw [u3]
  simp only
  rw [if_neg (by simp)]
  by_cases hr : rest = []
  · have hd : doneE (encBL f l ++ rest) (0 + (uvarL f).length + (uvarL l.length).length + (l.flatMap encL).length) 0 = 0 := by
      unfold doneE; rw [if_pos (Or.inr (by rw [hlen, hr]; rfl))]
    rw [hd, if_neg (by simp), if_pos hr]
  · have h9 : rest.length ≠ 0 := fun e => hr (List.eq_nil_of_length_eq_zero e)
    have hd : doneE (encBL f l ++ rest) (0 + (uvarL f).length + (uvarL l.length).length + (l.flatMap encL).length) 0 = 3 := by
      unfold doneE
      rw [if_neg]
      rintro (h | h)
      · exact absurd rfl h
      · omega
    rw [hd, if_pos (by decide), if_neg hr]
theorem decB_laid (f : Nat) (l : List En) (q : List UInt8) (h : encBF f l = (q, 0)) : decB q = ⟨0, f, l⟩ := by
  obtain ⟨rfl, h0, h1, h2, h3⟩ := encBF_ok f l q h
  have := decB_pre f l [] h0 h1 h2 h3
  rw [List.append_nil, if_pos rfl] at this
  exact this
theorem decB_back (W : List UInt8) (f : Nat) (l : List En) (h : decB W = ⟨0, f, l⟩) : encBF f l = (W, 0) := by
  unfold decB at h
  have nb : ∀ e, e ≠ 0 → batNo e ≠ ⟨0, f, l⟩ := fun e he h9 => he (congrArg Bat.e h9)
  obtain ⟨g, a1, e1, h1⟩ : ∃ g a1 e1, uvarS W 0 0 = (g, a1, e1) := ⟨_, _, _, rfl⟩
  rw [h1] at h
  simp only at h
  split at h
  · rename_i h9; exact absurd h (nb _ h9)
  · rename_i h9
    obtain rfl : e1 = 0 := by omega
    obtain ⟨m, a2, e2, h2⟩ : ∃ m a2 e2, uvarS W a1 0 = (m, a2, e2) := ⟨_, _, _, rfl⟩
    rw [h2] at h
    simp only at h
    split at h
    · rename_i h8; exact absurd h (nb _ h8)
    · rename_i h8
      obtain rfl : e2 = 0 := by omega
      split at h
      · exact absurd h (nb _ (by decide))
      · rename_i h64
        split at h
        · exact absurd h (nb _ (by decide))
        · rename_i hfit
          unfold batF at h
          split at h
          · rename_i h7; exact absurd h (nb _ h7)
          · rename_i h7
            split at h
            · rename_i h6; exact absurd h (nb _ h6)
            · rename_i h6
              injection h with _ hf hl
              subst hf
              obtain ⟨b1, b2, _⟩ := uvar_back W 0 g a1 h1
              obtain ⟨c1, c2, _⟩ := uvar_back W a1 m a2 h2
              obtain ⟨d0, d1, d2, d3⟩ := entsS_back W m a2 _ rfl (by omega)
              rw [hl] at d0 d1 d2 d3
              have hat : (entsS W m a2).at_ = W.length := by
                have h6' : doneE W (entsS W m a2).at_ 0 = 0 := by omega
                unfold doneE at h6'
                split at h6'
                · rename_i h5; rcases h5 with h5 | h5
                  · exact absurd rfl h5
                  · exact h5
                · omega
              have hW : W = encBL g l := by
                unfold encBL
                rw [d0]
                rw [hat, List.drop_length, List.append_nil] at d2
                rw [← d2, ← c1, ← b1]; rfl
              subst d0
              unfold encBF
              rw [if_pos (errB_ok g l (by omega) (by omega) (by omega) d1), ← hW]
theorem decB_cut (f : Nat) (l : List En) (q : List UInt8) (h : encBF f l = (q, 0)) (k : Nat) (hk : k < q.length) : (decB (q.take k)).e ≠ 0 := by
  intro he
  obtain ⟨t, ht⟩ : ∃ t, decB (q.take k) = t := ⟨_, rfl⟩
  obtain ⟨e, g, m⟩ := t
  rw [ht] at he
  simp only at he
  subst he
  have hb := decB_back _ _ _ ht
  obtain ⟨e1, e2, e3, e4, e5⟩ := encBF_ok _ _ _ hb
  have h1 := decB_pre g m (q.drop k) e2 e3 e4 e5
  rw [← e1, List.take_append_drop, decB_laid f l q h] at h1
  have hr : q.drop k ≠ [] := fun e => by have := congrArg List.length e; simp at this; omega
  rw [if_neg hr] at h1
  exact absurd (congrArg Bat.e h1) (by simp [batNo])
theorem decB_more (f : Nat) (l : List En) (q : List UInt8) (h : encBF f l = (q, 0)) (c : UInt8) : (decB (q ++ [c])).e ≠ 0 := by
  obtain ⟨e1, e2, e3, e4, e5⟩ := encBF_ok _ _ _ h
  rw [e1, decB_pre f l [c] e2 e3 e4 e5, if_neg (by simp)]
  simp [batNo]
theorem encE_ok (e : En) (q : List UInt8) (h : encE e = (q, 0)) : q = encL e ∧ chkF e = 0 := by
  unfold encE at h
  split at h
  · rename_i hc; injection h with h1 _; exact ⟨h1.symm, hc⟩
  · rename_i hc; injection h with _ h2; exact absurd h2 hc
theorem decF_pre (e : En) (rest : List UInt8) (hc : chkF e = 0) : decF (encL e ++ rest) = if rest = [] then (0, e) else (3, ⟨0, [], []⟩) := by
  have h1 := entS_laid (encL e ++ rest) 0 e rest (by simp) hc
  unfold decF
  rw [h1]
  simp only
  rw [if_neg (by simp)]
  by_cases hr : rest = []
  · have hd : doneE (encL e ++ rest) (0 + (encL e).length) 0 = 0 := by
      unfold doneE; rw [if_pos (Or.inr (by rw [hr]; simp))]
    rw [hd, if_neg (by simp), if_pos hr]
  · have h9 : rest.length ≠ 0 := fun e => hr (List.eq_nil_of_length_eq_zero e)
    have hd : doneE (encL e ++ rest) (0 + (encL e).length) 0 = 3 := by
      unfold doneE
      rw [if_neg]
      rintro (h | h)
      · exact absurd rfl h
      · rw [List.length_append] at h; omega
    rw [hd, if_pos (by decide), if_neg hr]
theorem decF_laid (e : En) (q : List UInt8) (h : encE e = (q, 0)) : decF q = (0, e) := by
  obtain ⟨rfl, hc⟩ := encE_ok e q h
  have := decF_pre e [] hc
  rw [List.append_nil, if_pos rfl] at this
  exact this
theorem decF_back (W : List UInt8) (v : En) (h : decF W = (0, v)) : encE v = (W, 0) := by
  unfold decF at h
  split at h
  · rename_i h9; injection h with h1 _; exact absurd h1 h9
  · rename_i h9
    split at h
    · rename_i h8; injection h with h1 _; exact absurd h1 h8
    · rename_i h8
      injection h with _ hv
      obtain ⟨b1, b2, b3⟩ := entS_back W 0 _ rfl (by omega)
      rw [hv] at b1 b2 b3
      have hat : (entS W 0).at_ = W.length := by
        have h6' : doneE W (entS W 0).at_ 0 = 0 := by omega
        unfold doneE at h6'
        split at h6'
        · rename_i h5; rcases h5 with h5 | h5
          · exact absurd rfl h5
          · exact h5
        · omega
      rw [hat, List.drop_length, List.append_nil] at b2
      unfold encE
      rw [if_pos b1, ← b2]; rfl
theorem decF_cut (e : En) (q : List UInt8) (h : encE e = (q, 0)) (k : Nat) (hk : k < q.length) : (decF (q.take k)).1 ≠ 0 := by
  intro he
  obtain ⟨a, v, ht⟩ : ∃ a v, decF (q.take k) = (a, v) := ⟨_, _, rfl⟩
  rw [ht] at he
  simp only at he
  subst he
  obtain ⟨e1, e2⟩ := encE_ok _ _ (decF_back _ _ ht)
  have h1 := decF_pre v (q.drop k) e2
  rw [← e1, List.take_append_drop, decF_laid e q h] at h1
  have hr : q.drop k ≠ [] := fun e => by have := congrArg List.length e; simp at this; omega
  rw [if_neg hr] at h1
  exact absurd (congrArg Prod.fst h1) (by simp)
theorem decF_more (e : En) (q : List UInt8) (h : encE e = (q, 0)) (c : UInt8) : (decF (q ++ [c])).1 ≠ 0 := by
  obtain ⟨e1, e2⟩ := encE_ok _ _ h
  rw [e1, decF_pre e [c] e2, if_neg (by simp)]
  decide
end Go.Proofs.YtpmnnnbkbcpgjaaGreatDoor
