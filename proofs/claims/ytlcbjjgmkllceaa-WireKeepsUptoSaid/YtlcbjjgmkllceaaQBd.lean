import Derived.Test.YtlcbjjgmkllceaaQBa
/- Plain laws on numbers laid as bytes and taken off again. No program stands here. -/
namespace Go.Proofs.Ytlcbjjgmkllceaa
open WireMath (byteAt wideL beN grpTo grpL uvarF uvarL grp lst numS uvarS rawS blobS)

theorem foldl_be (l : List UInt8) : ∀ a : Nat, l.foldl (fun v c => v * 256 + c.toNat) a = a * 256 ^ l.length + beN l := by
  induction l with
  | nil => intro a; simp [WireMath.beN]
  | cons c l ih =>
    intro a
    have h0 : beN (c :: l) = (0 * 256 + c.toNat) * 256 ^ l.length + beN l := by
      show (c :: l).foldl _ 0 = _
      rw [List.foldl_cons, ih]
    rw [h0, List.foldl_cons, ih, List.length_cons, Nat.pow_succ, Nat.add_mul, Nat.zero_mul, Nat.zero_add]
    rw [Nat.mul_assoc a, Nat.mul_comm 256, Nat.add_assoc]
theorem beN_cons (c : UInt8) (l : List UInt8) : beN (c :: l) = c.toNat * 256 ^ l.length + beN l := by
  show (c :: l).foldl _ 0 = _
  rw [List.foldl_cons, foldl_be]; simp
theorem beN_wideL (v : Nat) : ∀ n, beN (wideL v n) = v % 256 ^ n := by
  intro n
  induction n with
  | zero => simp [WireMath.wideL, WireMath.beN, Nat.mod_one]
  | succ n ih =>
    have hb : (byteAt v n).toNat = v / 256 ^ n % 256 := by
      unfold WireMath.byteAt
      rw [UInt8.toNat_ofNat', show (256 : Nat) ^ n = 2 ^ (8 * n) by rw [Nat.pow_mul]]
    rw [show wideL v (n + 1) = byteAt v n :: wideL v n from rfl, beN_cons, ih, WireMath.wideL_length, hb, Nat.mod_pow_succ, Nat.mul_comm]
    omega

theorem wideL_low (a b : Nat) : ∀ n, wideL (a * 256 ^ n + b) n = wideL b n := by
  intro n
  suffices h : ∀ m, m ≤ n → wideL (a * 256 ^ n + b) m = wideL b m from h n (Nat.le_refl _)
  intro m
  induction m with
  | zero => intro _; rfl
  | succ m ih =>
    intro hm
    simp only [WireMath.wideL]
    rw [ih (by omega)]
    congr 1
    unfold WireMath.byteAt
    apply UInt8.toNat_inj.1
    rw [UInt8.toNat_ofNat', UInt8.toNat_ofNat', show (2 : Nat) ^ (8 * m) = 256 ^ m by rw [Nat.pow_mul]]
    have e : a * 256 ^ n = 256 ^ m * (a * 256 ^ (n - m - 1) * 256) := by
      have : 256 ^ n = 256 ^ m * (256 ^ (n - m - 1) * 256) := by
        rw [← Nat.pow_succ, ← Nat.pow_add]; congr 1; omega
      rw [this, Nat.mul_left_comm, Nat.mul_assoc]
    rw [e, Nat.mul_add_div (Nat.pow_pos (by decide))]
    omega
theorem wideL_beN : ∀ l : List UInt8, wideL (beN l) l.length = l := by
  intro l
  induction l with
  | nil => rfl
  | cons c l ih =>
    have h := WireMath.beN_lt l l.length (Nat.le_refl _)
    rw [beN_cons, List.length_cons]
    simp only [WireMath.wideL]
    rw [wideL_low, ih]
    congr 1
    unfold WireMath.byteAt
    apply UInt8.toNat_inj.1
    rw [UInt8.toNat_ofNat', show (2 : Nat) ^ (8 * l.length) = 256 ^ l.length by rw [Nat.pow_mul], Nat.mul_comm, Nat.mul_add_div (Nat.pow_pos (by decide)), Nat.div_eq_of_lt h]
    have := c.toNat_lt
    omega

theorem grp_toNat (x : Nat) : (grp x).toNat = x % 128 + 128 := by
  unfold WireMath.grp; rw [UInt8.toNat_ofNat']; omega
theorem lst_toNat (x : Nat) (h : x < 128) : (lst x).toNat = x := by
  unfold WireMath.lst; rw [UInt8.toNat_ofNat']; omega
theorem u8_zero (c : UInt8) : c = 0 ↔ c.toNat = 0 := ⟨fun h => by rw [h]; rfl, fun h => UInt8.toNat_inj.1 h⟩
theorem u8_one (c : UInt8) : c = 1 ↔ c.toNat = 1 := ⟨fun h => by rw [h]; rfl, fun h => UInt8.toNat_inj.1 h⟩
/-- groups that were laid are read as the number -/
theorem grpTo_laid (rest : List UInt8) : ∀ f i x acc, i + f = 9 → x * 128 ^ i < 2 ^ 64 → (0 < i → 0 < x) → grpTo i acc (uvarF f x ++ rest) = (acc + x * 128 ^ i, i + (uvarF f x).length) := by
  intro f
  induction f with
  | zero =>
    intro i x acc hi hx h0
    obtain rfl : i = 9 := by omega
    have hp : (128 : Nat) ^ 9 = 9223372036854775808 := by decide
    have hx1 : x = 1 := by have := h0 (by decide); rw [hp] at hx; omega
    subst hx1
    have hl := lst_toNat 1 (by decide)
    simp only [WireMath.uvarF, List.cons_append, List.nil_append, WireMath.grpTo]
    rw [if_neg (by simp only [ne_eq, u8_one, u8_zero, hl]; decide), if_pos (by rw [hl]; decide), hl]
    simp
  | succ f ih =>
    intro i x acc hi hx h0
    simp only [WireMath.uvarF]
    by_cases hlt : x < 128
    · rw [if_pos hlt]
      have hl := lst_toNat x hlt
      simp only [List.cons_append, List.nil_append, WireMath.grpTo]
      rw [if_neg (by simp only [ne_eq, u8_one, u8_zero, hl]; omega), if_pos (by rw [hl]; exact hlt), hl, Nat.mod_eq_of_lt hlt]
      simp
    · rw [if_neg hlt]
      have hg := grp_toNat x
      have hx2 : x / 128 * 128 ^ (i + 1) ≤ x * 128 ^ i := by
        rw [Nat.pow_succ, Nat.mul_comm (128 ^ i), ← Nat.mul_assoc]
        exact Nat.mul_le_mul_right _ (Nat.div_mul_le_self x 128)
      simp only [List.cons_append, WireMath.grpTo]
      rw [if_neg (by simp only [ne_eq, u8_one, u8_zero, hg]; omega), if_neg (by rw [hg]; omega), hg, ih (i + 1) (x / 128) _ (by omega) (by omega) (fun _ => by omega)]
      have e : acc + (x % 128 + 128) % 128 * 128 ^ i + x / 128 * 128 ^ (i + 1) = acc + x * 128 ^ i := by
        have h1 : (x % 128 + 128) % 128 = x % 128 := by omega
        have h2 : x / 128 * 128 ^ (i + 1) = (128 * (x / 128)) * 128 ^ i := by rw [Nat.pow_succ, Nat.mul_comm (128 ^ i), ← Nat.mul_assoc, Nat.mul_comm (x / 128) 128]
        rw [h1, h2, Nat.add_assoc, ← Nat.add_mul, Nat.mod_add_div]
      rw [e]
      simp only [List.length_cons]
      congr 1
      omega
theorem grpTo_cut : ∀ f i x acc m, i + f = 9 → m < (uvarF f x).length → grpTo i acc ((uvarF f x).take m) = (0, 0) := by
  intro f
  induction f with
  | zero =>
    intro i x acc m hi hm
    simp only [WireMath.uvarF, List.length_singleton] at hm
    obtain rfl : m = 0 := by omega
    rfl
  | succ f ih =>
    intro i x acc m hi hm
    cases m with
    | zero => rfl
    | succ m =>
      simp only [WireMath.uvarF] at hm ⊢
      by_cases hlt : x < 128
      · rw [if_pos hlt] at hm; simp at hm
      · rw [if_neg hlt] at hm ⊢
        have hg := grp_toNat x
        simp only [List.take_succ_cons, WireMath.grpTo]
        rw [if_neg (by simp only [ne_eq, u8_one, u8_zero, hg]; omega), if_neg (by rw [hg]; omega)]
        exact ih (i + 1) (x / 128) _ m (by omega) (by simpa using hm)
theorem grpTo_back (l : List UInt8) : ∀ i acc y k, i ≤ 9 → grpTo i acc l = (y, k) → k ≠ 0 → ∃ x, y = acc + x * 128 ^ i ∧ (0 < i → 0 < x) ∧ i < k ∧ k - i ≤ l.length ∧ l.take (k - i) = uvarF (9 - i) x := by
  induction l with
  | nil => intro i acc y k _ h hk; simp only [WireMath.grpTo, Prod.mk.injEq] at h; exact absurd h.2.symm hk
  | cons c l ih =>
    intro i acc y k hi h hk
    have hc := c.toNat_lt
    simp only [WireMath.grpTo] at h
    by_cases h1 : (i = 9 ∧ c ≠ 1) ∨ (0 < i ∧ c = 0)
    · rw [if_pos h1] at h; simp only [Prod.mk.injEq] at h; exact absurd h.2.symm hk
    · rw [if_neg h1] at h
      simp only [ne_eq, u8_one, u8_zero] at h1
      by_cases h2 : c.toNat < 128
      · rw [if_pos h2] at h
        simp only [Prod.mk.injEq] at h
        obtain ⟨rfl, rfl⟩ := h
        refine ⟨c.toNat, by rw [Nat.mod_eq_of_lt h2], fun h => by omega, by omega, by simp, ?_⟩
        have e : lst c.toNat = c := by unfold WireMath.lst; simp
        rw [show i + 1 - i = 1 by omega]
        cases 9 - i with
        | zero => simp [WireMath.uvarF, e]
        | succ f => simp [WireMath.uvarF, h2, e]
      · rw [if_neg h2] at h
        obtain ⟨x, hy, hx, hik, hkl, ht⟩ := ih (i + 1) _ y k (by omega) h hk
        have hx0 := hx (by omega)
        refine ⟨c.toNat % 128 + 128 * x, ?_, fun _ => by omega, by omega, by simp; omega, ?_⟩
        · rw [hy, Nat.add_mul, Nat.add_assoc, Nat.pow_succ, Nat.mul_comm (128 ^ i), ← Nat.mul_assoc, Nat.mul_comm x 128]
        · rw [show k - i = (k - (i + 1)) + 1 by omega, List.take_succ_cons, ht, show 9 - i = (9 - (i + 1)) + 1 by omega]
          simp only [WireMath.uvarF]
          rw [if_neg (by omega)]
          have e1 : grp (c.toNat % 128 + 128 * x) = c := by
            apply UInt8.toNat_inj.1
            rw [grp_toNat]; omega
          have e2 : (c.toNat % 128 + 128 * x) / 128 = x := by omega
          rw [e1, e2]

theorem grpL_laid (v : Nat) (rest : List UInt8) (hv : v < 2 ^ 64) : grpL (uvarL v ++ rest) = (v, (uvarL v).length) := by
  have := grpTo_laid rest 9 0 v 0 rfl (by simpa using hv) (fun h => absurd h (by decide))
  unfold WireMath.grpL WireMath.uvarL
  rw [this]; simp
theorem grpL_cut (v m : Nat) (hm : m < (uvarL v).length) : grpL ((uvarL v).take m) = (0, 0) := grpTo_cut 9 0 v 0 m rfl hm
theorem grpL_back (l : List UInt8) (y k : Nat) (h : grpL l = (y, k)) (hk : k ≠ 0) : k ≤ l.length ∧ l.take k = uvarL y := by
  obtain ⟨x, hy, _, _, hl, ht⟩ := grpTo_back l 0 0 y k (by decide) h hk
  simp at hy
  subst hy
  exact ⟨by simpa using hl, by rw [Nat.sub_zero] at ht; exact ht⟩
end Go.Proofs.Ytlcbjjgmkllceaa
