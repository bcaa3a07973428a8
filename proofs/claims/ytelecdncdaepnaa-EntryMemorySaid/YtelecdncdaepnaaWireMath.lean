/- Plain facts on numbers laid as bytes. No program stands here. -/
import GoSem.Claim
namespace Go.Proofs.Ytelecdncdaepnaa.WireMath

/-- the lowest byte of v shifted right by 8 i bits -/
def byteAt (v i : Nat) : UInt8 := UInt8.ofNat (v / 2 ^ (8 * i))
/-- the lowest n bytes of v, the highest of them first -/
def wideL (v : Nat) : Nat → List UInt8
  | 0 => []
  | n + 1 => byteAt v n :: wideL v n
theorem wideL_length (v : Nat) : ∀ n, (wideL v n).length = n
  | 0 => rfl
  | n + 1 => by simp [wideL, wideL_length v n]

/-- a group that others follow; the last group -/
def grp (x : Nat) : UInt8 := UInt8.ofNat (x % 128 + 128)
/-- the last group -/
def lst (x : Nat) : UInt8 := UInt8.ofNat x
/-- groups of seven bits, the lowest first -/
def uvarF : Nat → Nat → List UInt8
  | 0, v => [lst v]
  | f + 1, v => if v < 128 then [lst v] else grp v :: uvarF f (v / 128)
def uvarL (v : Nat) : List UInt8 := uvarF 9 v
theorem uvarF_pos (f v : Nat) : 0 < (uvarF f v).length := by
  cases f <;> simp only [uvarF]
  · simp
  · split <;> simp
theorem uvarF_length (f v : Nat) : (uvarF f v).length ≤ f + 1 := by
  induction f generalizing v with
  | zero => simp [uvarF]
  | succ f ih =>
    simp only [uvarF]
    split
    · simp
    · have := ih (v / 128)
      simp; omega
theorem uvarL_length (v : Nat) : (uvarL v).length ≤ 10 := uvarF_length 9 v
/-- the number of bytes, the highest first -/
def beN (l : List UInt8) : Nat := l.foldl (fun v c => v * 256 + c.toNat) 0
theorem beN_snoc (l : List UInt8) (c : UInt8) : beN (l ++ [c]) = beN l * 256 + c.toNat := by simp [beN, List.foldl_append]
theorem beN_lt (l : List UInt8) : ∀ n, l.length ≤ n → beN l < 256 ^ n := by
  have h : ∀ (k : Nat) (l : List UInt8), l.length = k → beN l < 256 ^ k := by
    intro k
    induction k with
    | zero => intro l hl; have : l = [] := List.eq_nil_of_length_eq_zero hl; subst this; decide
    | succ k ih =>
      intro l hl
      have hne : l ≠ [] := by intro e; subst e; simp at hl
      rw [← List.dropLast_concat_getLast hne, beN_snoc]
      have h1 := ih l.dropLast (by simp; omega)
      have h2 := (l.getLast hne).toNat_lt
      rw [Nat.pow_succ]
      omega
  intro n hn
  exact Nat.lt_of_lt_of_le (h _ l rfl) (Nat.pow_le_pow_right (by decide) hn)
/-- a number of n bytes taken off: the number, the place behind it, the fault -/
def numS (P : List UInt8) (at_ e n : Nat) : Nat × Nat × Nat :=
  if e ≠ 0 then (0, at_, e) else if P.length - at_ < n then (0, at_, 3) else (beN ((P.drop at_).take n), at_ + n, 0)
/-- the groups from the i-th on: the number and the count of bytes; 0 bytes if there is none -/
def grpTo : Nat → Nat → List UInt8 → Nat × Nat
  | _, _, [] => (0, 0)
  | i, v, c :: l => if (i = 9 ∧ c ≠ 1) ∨ (0 < i ∧ c = 0) then (0, 0) else if c.toNat < 128 then (v + c.toNat % 128 * 128 ^ i, i + 1) else grpTo (i + 1) (v + c.toNat % 128 * 128 ^ i) l
def grpL (l : List UInt8) : Nat × Nat := grpTo 0 0 l
theorem grpTo_le (l : List UInt8) : ∀ i v, (grpTo i v l).2 ≤ i + l.length := by
  induction l with
  | nil => intro i v; simp [grpTo]
  | cons c l ih =>
    intro i v
    unfold grpTo
    split
    · simp
    · split
      · simp
      · have := ih (i + 1) (v + c.toNat % 128 * 128 ^ i); simp; omega
theorem grpL_le (l : List UInt8) : (grpL l).2 ≤ l.length := by have := grpTo_le l 0 0; unfold grpL; omega
theorem grpTo_zero (l : List UInt8) : ∀ i v, (grpTo i v l).2 = 0 → (grpTo i v l).1 = 0 := by
  induction l with
  | nil => intro i v _; simp [grpTo]
  | cons c l ih =>
    intro i v
    unfold grpTo
    split
    · simp
    · split
      · simp
      · exact ih _ _
theorem grpTo_lt (l : List UInt8) : ∀ i v, i ≤ 9 → v < 128 ^ i → (grpTo i v l).1 < 2 ^ 64 := by
  induction l with
  | nil => intro i v _ _; simp [grpTo]
  | cons c l ih =>
    intro i v hi hv
    have hn : v + c.toNat % 128 * 128 ^ i < 128 ^ (i + 1) := by
      have h2 : (c.toNat % 128 + 1) * 128 ^ i ≤ 128 * 128 ^ i := Nat.mul_le_mul_right _ (by omega)
      rw [Nat.add_mul, Nat.one_mul] at h2
      rw [Nat.pow_succ]
      omega
    unfold grpTo
    split
    · simp
    · rename_i h
      by_cases h9 : i = 9
      · have hc : c = 1 := by
          by_cases hc : c = 1
          · exact hc
          · exact absurd (Or.inl ⟨h9, hc⟩) h
        subst hc
        subst h9
        rw [if_pos (by decide)]
        show v + 1 * 128 ^ 9 < 2 ^ 64
        have : (128 : Nat) ^ 9 + 1 * 128 ^ 9 ≤ 2 ^ 64 := by decide
        exact Nat.lt_of_lt_of_le (Nat.add_lt_add_right hv _) this
      · have h8 : (128 : Nat) ^ (i + 1) ≤ 128 ^ 9 := Nat.pow_le_pow_right (by decide) (by omega)
        split
        · exact Nat.lt_of_lt_of_le hn (Nat.le_trans h8 (by decide))
        · exact ih (i + 1) _ (by omega) hn
theorem grpL_lt (l : List UInt8) : (grpL l).1 < 2 ^ 64 := grpTo_lt l 0 0 (by decide) (by decide)
def uvarS (P : List UInt8) (at_ e : Nat) : Nat × Nat × Nat :=
  if e ≠ 0 then (0, at_, e) else ((grpL (P.drop at_)).1, at_ + (grpL (P.drop at_)).2, if (grpL (P.drop at_)).2 = 0 then 3 else 0)
def rawS (P : List UInt8) (at_ e : Nat) (n : Int) : List UInt8 × Nat × Nat :=
  if e ≠ 0 then ([], at_, e) else if n < 0 then ([], at_, 1) else if (P.length - at_ : Nat) < n then ([], at_, 3) else ((P.drop at_).take n.toNat, at_ + n.toNat, 0)
def blobS (P : List UInt8) (at_ e : Nat) (most : Int) : List UInt8 × Nat × Nat :=
  if e ≠ 0 then ([], at_, e) else if most < 0 then ([], at_, 1) else
  if (grpL (P.drop at_)).2 = 0 then ([], at_, 3) else if most < (grpL (P.drop at_)).1 then ([], at_, 2) else
  if P.length - at_ - (grpL (P.drop at_)).2 < (grpL (P.drop at_)).1 then ([], at_, 3) else
  ((P.drop (at_ + (grpL (P.drop at_)).2)).take (grpL (P.drop at_)).1, at_ + (grpL (P.drop at_)).2 + (grpL (P.drop at_)).1, 0)
end Go.Proofs.Ytelecdncdaepnaa.WireMath
