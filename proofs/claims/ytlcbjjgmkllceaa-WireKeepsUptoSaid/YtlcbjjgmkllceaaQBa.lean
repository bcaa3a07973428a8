import GoSem.Claim
import Derived.Test.YtlcbjjgmkllceaaChecked
import Derived.WalkKit
import Derived.WalkSpells
import Derived.WalkLawsBesides
import Derived.Lib.Hide
import Derived.Laws.AppendOwnNone
import Derived.Laws.CopyOwn
import Derived.Deep.LoopGhost
import Derived.Deep.DeepCutAuto
import Derived.Deep.QuietTactic
import Derived.BigQuiet
import Derived.Maps.AppendAt
import Derived.Laws.BitsLemmas
/- Plain facts on words of 32 bits: the turn of CRC-32C, its linearity, the reversed form, products of remainders. No program stands here. -/
namespace Go.Proofs.Ytlcbjjgmkllceaa.CrcMath

abbrev W := BitVec 32

/-- f done n times. -/
def it {α : Type} (f : α → α) : Nat → α → α
  | 0, a => a
  | n + 1, a => f (it f n a)

theorem it_add {α : Type} (f : α → α) (m n : Nat) (a : α) : it f (m + n) a = it f m (it f n a) := by
  induction m with
  | zero => simp [it]
  | succ m ih => rw [Nat.succ_add]; simp only [it, ih]

theorem it_mul {α : Type} (f : α → α) (m n : Nat) (a : α) : it f (m * n) a = it (it f n) m a := by
  induction m with
  | zero => simp [it]
  | succ m ih => rw [Nat.succ_mul, Nat.add_comm, it_add, ih]; rfl

theorem it_comm {α : Type} (f : α → α) (m n : Nat) (a : α) : it f m (it f n a) = it f n (it f m a) := by
  rw [← it_add, ← it_add, Nat.add_comm]

def Lin (f : W → W) : Prop := ∀ a b, f (a ^^^ b) = f a ^^^ f b

theorem Lin.zero {f : W → W} (h : Lin f) : f 0 = 0 := by
  have := h 0 0
  simpa using this

theorem Lin.comp {f g : W → W} (hf : Lin f) (hg : Lin g) : Lin (fun x => f (g x)) := fun a b => by
  show f (g (a ^^^ b)) = f (g a) ^^^ f (g b)
  rw [hg a b, hf]
theorem Lin.it {f : W → W} (hf : Lin f) : ∀ n, Lin (it f n)
  | 0 => fun _ _ => rfl
  | n + 1 => fun a b => by simp only [CrcMath.it, Lin.it hf n a b, hf _ _]
theorem Lin.xor {f g : W → W} (hf : Lin f) (hg : Lin g) : Lin (fun x => f x ^^^ g x) := fun a b => by
  simp only [hf a b, hg a b]
  ac_rfl
theorem lin_zero : Lin (fun _ => 0) := fun _ _ => by simp

/-- the word whose one bit is i -/
def unit (i : Nat) : W := (1 : W) <<< i
/-- the lowest n bits -/
def low (c : W) (n : Nat) : W := BitVec.ofNat 32 (c.toNat % 2 ^ n)

theorem low_zero (c : W) : low c 0 = 0 := by simp [low, Nat.mod_one]
theorem low_all (c : W) : low c 32 = c := by
  apply BitVec.eq_of_toNat_eq
  simp [low, Nat.mod_eq_of_lt c.isLt]
theorem low_bit (c : W) (n i : Nat) : (low c n).getLsbD i = (decide (i < n) && c.getLsbD i) := by
  simp only [low, BitVec.getLsbD_ofNat, Nat.testBit_mod_two_pow]
  by_cases h : i < 32
  · simp [h, BitVec.getLsbD]
  · simp only [h, decide_false, Bool.false_and]
    rw [BitVec.getLsbD_of_ge c i (by omega)]; simp
theorem unit_bit (n i : Nat) : (unit n).getLsbD i = (decide (i < 32) && decide (i = n)) := by
  unfold unit
  rw [BitVec.getLsbD_shiftLeft, show (1 : W) = 1#32 from rfl, BitVec.getLsbD_one]
  by_cases h1 : i < 32 <;> by_cases h2 : i = n
  · subst h2; simp [h1]
  · by_cases h3 : i < n
    · simp [h1, h2, h3]
    · have : i - n ≠ 0 := by omega
      simp [h1, h2, h3]; omega
  · simp [h1]
  · simp [h1]
theorem zero_bit (i : Nat) : (0 : W).getLsbD i = false := by show (0#32).getLsbD i = false; simp
theorem low_succ (c : W) (n : Nat) : low c (n + 1) = low c n ^^^ (if c.getLsbD n then unit n else 0) := by
  apply BitVec.eq_of_getLsbD_eq
  intro i hi
  rw [BitVec.getLsbD_xor, low_bit, low_bit]
  by_cases e : i = n
  · subst e
    cases hc : c.getLsbD i
    · rw [if_neg (by decide)]; rw [zero_bit]; simp only [Bool.and_false, Bool.xor_false]
    · rw [if_pos rfl, unit_bit]; simp only [hi, Nat.lt_irrefl, Nat.lt_succ_self, decide_true, decide_false, Bool.and_self, Bool.false_and, Bool.false_xor]
  · have : decide (i < n + 1) = decide (i < n) := by simp; omega
    rw [this]
    cases hc : c.getLsbD n
    · rw [if_neg (by decide), zero_bit, Bool.xor_false]
    · rw [if_pos rfl, unit_bit]; simp only [e, decide_false, Bool.and_false, Bool.xor_false]

/-- what a table of 32 words makes of c, by its lowest n bits -/
def ofTo (m : Nat → W) (c : W) : Nat → W
  | 0 => 0
  | n + 1 => if c.getLsbD n then ofTo m c n ^^^ m n else ofTo m c n

theorem ofTo_low {f : W → W} (h : Lin f) (m : Nat → W) (c : W) (N : Nat) (hm : ∀ i, i < N → m i = f (unit i)) : ∀ n, n ≤ N → ofTo m c n = f (low c n)
  | 0, _ => by rw [low_zero]; exact h.zero.symm
  | n + 1, hn => by
    rw [low_succ, h]
    simp only [ofTo, ofTo_low h m c N hm n (by omega)]
    split
    · rw [hm n (by omega)]
    · rw [h.zero]; simp
theorem ofTo_all {f : W → W} (h : Lin f) (m : Nat → W) (c : W) (hm : ∀ i, i < 32 → m i = f (unit i)) : ofTo m c 32 = f c := by
  rw [ofTo_low h m c 32 hm 32 (Nat.le_refl _), low_all]

theorem Lin.ext {f g : W → W} (hf : Lin f) (hg : Lin g) (h : ∀ i, i < 32 → f (unit i) = g (unit i)) (c : W) : f c = g c := by
  rw [← ofTo_all hf (fun i => f (unit i)) c (fun _ _ => rfl), ofTo_all hg (fun i => f (unit i)) c h]

/-- the turn -/
def turn (c : W) : W := if c.getLsbD 0 then (c >>> 1) ^^^ 0x82f63b78#32 else c >>> 1
theorem lin_shr : Lin (fun c => c >>> 1) := fun a b => by simp only [BitVec.ushiftRight_xor_distrib]
theorem lin_bit (n : Nat) (k : W) : Lin (fun c => if c.getLsbD n then k else 0) := fun a b => by
  simp only [BitVec.getLsbD_xor]
  cases a.getLsbD n <;> cases b.getLsbD n <;> simp
theorem turn_eq (c : W) : turn c = (c >>> 1) ^^^ (if c.getLsbD 0 then 0x82f63b78#32 else 0) := by
  unfold turn; split <;> simp
theorem lin_turn : Lin turn := by
  have h := Lin.xor lin_shr (lin_bit 0 0x82f63b78#32)
  intro a b
  simp only [turn_eq]
  exact h a b
/-- eight turns -/
def Z (c : W) : W := it turn 8 c
theorem lin_Z : Lin Z := lin_turn.it 8

theorem turn_zero {c : W} (h : turn c = 0) : c = 0 := by
  unfold turn at h
  split at h
  · rename_i hb
    have := congrArg (fun x : W => x.getLsbD 31) h
    replace this : (c >>> 1 ^^^ 0x82f63b78#32).getLsbD 31 = (0 : W).getLsbD 31 := this
    rw [BitVec.getLsbD_xor, BitVec.getLsbD_ushiftRight, BitVec.getLsbD_of_ge c (1 + 31) (by decide)] at this
    exact absurd this (by decide)
  · rename_i hb
    apply BitVec.eq_of_getLsbD_eq
    intro i hi
    cases i with
    | zero => simpa using hb
    | succ i =>
      have := congrArg (fun x : W => x.getLsbD i) h
      simp only [BitVec.getLsbD_ushiftRight] at this
      rw [Nat.add_comm] at this
      simpa using this
theorem it_turn_zero : ∀ (n : Nat) {c : W}, it turn n c = 0 → c = 0
  | 0, _, h => h
  | n + 1, _, h => it_turn_zero n (turn_zero h)
theorem Z_zero {c : W} (h : Z c = 0) : c = 0 := it_turn_zero 8 h

/-- the register for bytes -/
def reg (x : W) (p : List W) : W := p.foldl (fun x v => Z (x ^^^ v)) x
theorem reg_nil (x : W) : reg x [] = x := rfl
theorem reg_cons (x v : W) (p : List W) : reg x (v :: p) = reg (Z (x ^^^ v)) p := rfl
theorem reg_append (x : W) (p q : List W) : reg x (p ++ q) = reg (reg x p) q := by simp [reg, List.foldl_append]
theorem reg_snoc (x v : W) (p : List W) : reg x (p ++ [v]) = Z (reg x p ^^^ v) := by simp [reg, List.foldl_append]
theorem reg_xor (x y : W) (p : List W) : reg (x ^^^ y) p = it Z p.length x ^^^ reg y p := by
  induction p generalizing x y with
  | nil => rfl
  | cons v p ih =>
    rw [reg_cons, reg_cons, show x ^^^ y ^^^ v = x ^^^ (y ^^^ v) by ac_rfl, lin_Z, ih, List.length_cons, it_add]
    rfl

/-- Update -/
def upd (c : W) (p : List W) : W := ~~~ (reg (~~~ c) p)
def sum (p : List W) : W := upd 0 p
/-- Join -/
def joinN (a b : W) (n : Nat) : W := it Z n a ^^^ b

theorem not_eq (c : W) : ~~~ c = c ^^^ BitVec.allOnes 32 := by
  rw [BitVec.xor_allOnes]
theorem upd_nil (c : W) : upd c [] = c := by simp [upd, reg_nil]
theorem upd_append (c : W) (p q : List W) : upd c (p ++ q) = upd (upd c p) q := by simp [upd, reg_append]
theorem joinN_upd (c : W) (q : List W) : joinN c (sum q) q.length = upd c q := by
  unfold joinN sum upd
  rw [show ~~~ c = c ^^^ ~~~ (0 : W) by rw [not_eq, not_eq]; simp, reg_xor, not_eq, not_eq (it Z q.length c ^^^ _)]
  ac_rfl
theorem joinN_nest (a b c : W) (m n : Nat) : joinN (joinN a b m) c n = joinN a (joinN b c n) (m + n) := by
  unfold joinN
  rw [lin_Z.it n, Nat.add_comm, it_add]
  ac_rfl

/-- one round of Join: n' in halves -/
theorem it_half (G : W → W) (n : Nat) (x : W) : it (fun x => G (G x)) (n / 2) (it G (n % 2) x) = it G n x := by
  have h2 : ∀ m y, it (fun x => G (G x)) m y = it G (m * 2) y := by
    intro m y
    rw [it_mul]; rfl
  rw [h2, ← it_add]
  congr 1
  omega
theorem it_even (G : W → W) (n : Nat) (x : W) (h : n % 2 = 0) : it (fun x => G (G x)) (n / 2) x = it G n x := by
  have := it_half G n x
  rw [h] at this
  exact this
theorem it_odd (G : W → W) (n : Nat) (x : W) (h : n % 2 = 1) : it (fun x => G (G x)) (n / 2) (G x) = it G n x := by
  have := it_half G n x
  rw [h] at this
  exact this
theorem lin_twice {G : W → W} (h : Lin G) : Lin (fun x => G (G x)) := h.comp h
theorem ofTo_unit {G : W → W} (h : Lin G) (x : W) : ofTo (fun i => G (unit i)) x 32 = G x := ofTo_all h _ x (fun _ _ => rfl)

/-! ### The other way round -/
def double (r : W) : W := if r.getLsbD 31 then (r <<< 1) ^^^ 0x1EDC6F41#32 else r <<< 1
theorem lin_shl : Lin (fun c => c <<< 1) := fun a b => by simp only [BitVec.shiftLeft_xor_distrib]
theorem double_eq (c : W) : double c = (c <<< 1) ^^^ (if c.getLsbD 31 then 0x1EDC6F41#32 else 0) := by
  unfold double; split <;> simp
theorem lin_double : Lin double := by
  have h := Lin.xor lin_shl (lin_bit 31 0x1EDC6F41#32)
  intro a b
  simp only [double_eq]
  exact h a b

def revTo (c : W) : Nat → W
  | 0 => 0
  | n + 1 => (revTo c n <<< 1) ^^^ (if c.getLsbD n then 1 else 0)
def rev (c : W) : W := revTo c 32
theorem lin_revTo : ∀ n, Lin (fun c => revTo c n)
  | 0 => fun _ _ => by simp [revTo]
  | n + 1 => by
    have h := Lin.xor (lin_shl.comp (lin_revTo n)) (lin_bit n 1)
    exact h
theorem lin_rev : Lin rev := lin_revTo 32
theorem lin_id : Lin (fun c => c) := fun _ _ => rfl
theorem rev_rev (c : W) : rev (rev c) = c := Lin.ext (lin_rev.comp lin_rev) lin_id (by decide +kernel) c
theorem rev_turn (c : W) : rev (turn c) = double (rev c) := Lin.ext (lin_rev.comp lin_turn) (lin_double.comp lin_rev) (by decide +kernel) c
theorem rev_it (n : Nat) (c : W) : rev (it turn n c) = it double n (rev c) := by
  induction n with
  | zero => rfl
  | succ n ih => simp only [it, rev_turn, ih]
theorem rev_unit0 : rev (unit 0) = unit 31 := by decide +kernel
theorem it_turn_unit : ∀ n, n < 32 → it turn n (unit n) = unit 0 := by decide +kernel

/-- a byte's bits, one after another -/
def bitsTo (r v : W) : Nat → W
  | 0 => r
  | n + 1 => double (bitsTo r v n ^^^ (if v.getLsbD n then unit 31 else 0))
theorem bitsTo_next (r v : W) (n : Nat) : bitsTo r v (n + 1) = double (bitsTo r v n ^^^ (if v.getLsbD n then unit 31 else 0)) := rfl
theorem bitsTo_rev (c v : W) : ∀ n, n ≤ 32 → bitsTo (rev c) v n = rev (it turn n (c ^^^ low v n))
  | 0, _ => by simp [bitsTo, it, low_zero]
  | n + 1, h => by
    have e1 : (if v.getLsbD n then unit 31 else 0) = rev (it turn n (if v.getLsbD n then unit n else 0)) := by
      split
      · rw [it_turn_unit n (by omega), rev_unit0]
      · rw [(lin_turn.it n).zero, lin_rev.zero]
    simp only [bitsTo, bitsTo_rev c v n (by omega)]
    rw [e1, ← lin_rev, ← lin_turn.it n, ← rev_turn, low_succ, BitVec.xor_assoc]
    rfl
theorem low_small (v : W) (n : Nat) (h : v.toNat < 2 ^ n) : low v n = v := by
  apply BitVec.eq_of_toNat_eq
  simp [low, Nat.mod_eq_of_lt h]
def refReg (r : W) (p : List W) : W := p.foldl (fun r v => bitsTo r v 8) r
theorem refReg_nil (r : W) : refReg r [] = r := rfl
theorem bitsTo_zero (r v : W) : bitsTo r v 0 = r := rfl
theorem refReg_rev (c : W) (p : List W) (h : ∀ v ∈ p, v.toNat < 256) : refReg (rev c) p = rev (reg c p) := by
  induction p generalizing c with
  | nil => rfl
  | cons v p ih =>
    show refReg (bitsTo (rev c) v 8) p = rev (reg (Z (c ^^^ v)) p)
    rw [bitsTo_rev c v 8 (by decide), low_small v 8 (h v (by simp)), show it turn 8 (c ^^^ v) = Z (c ^^^ v) from rfl, ih _ (fun u hu => h u (List.mem_cons_of_mem _ hu))]
def refUpd (c : W) (p : List W) : W := ~~~ (rev (refReg (rev (~~~ c)) p))
theorem refUpd_eq (c : W) (p : List W) (h : ∀ v ∈ p, v.toNat < 256) : refUpd c p = upd c p := by
  unfold refUpd upd
  rw [refReg_rev _ _ h, rev_rev]

/-- the product of two remainders, from the top bit on -/
def timesTo (a b : W) : Nat → W
  | 0 => 0
  | k + 1 => double (timesTo a b k) ^^^ (if b.getLsbD (31 - k) then a else 0)
theorem timesTo_next (a b : W) (k : Nat) : timesTo a b (k + 1) = double (timesTo a b k) ^^^ (if b.getLsbD (31 - k) then a else 0) := rfl
def times (a b : W) : W := timesTo a b 32
theorem lin_timesTo_b (a : W) : ∀ k, Lin (fun b => timesTo a b k)
  | 0 => fun _ _ => by simp [timesTo]
  | k + 1 => by
    have h := Lin.xor (lin_double.comp (lin_timesTo_b a k)) (lin_bit (31 - k) a)
    exact h
theorem lin_times_b (a : W) : Lin (times a) := lin_timesTo_b a 32
theorem lin_timesTo_a (b : W) : ∀ k, Lin (fun a => timesTo a b k)
  | 0 => fun _ _ => by simp [timesTo]
  | k + 1 => by
    have h1 : Lin (fun a : W => if b.getLsbD (31 - k) then a else 0) := fun x y => by split <;> simp
    have h := Lin.xor (lin_double.comp (lin_timesTo_a b k)) h1
    exact h
theorem lin_times_a (b : W) : Lin (fun a => times a b) := lin_timesTo_a b 32
theorem timesTo_unit (a : W) (j : Nat) (hj : j < 32) : ∀ k, k ≤ 32 → timesTo a (unit j) k = if k < 32 - j then 0 else it double (k - (32 - j)) a
  | 0, _ => by rw [if_pos (by omega)]; rfl
  | k + 1, h => by
    have ih := timesTo_unit a j hj k (by omega)
    show double (timesTo a (unit j) k) ^^^ (if (unit j).getLsbD (31 - k) then a else 0) = _
    rw [ih, unit_bit]
    by_cases e : 31 - k = j
    · have c1 : (decide (31 - k < 32) && decide (31 - k = j)) = true := by
        rw [Bool.and_eq_true, decide_eq_true_eq, decide_eq_true_eq]; omega
      rw [c1, if_pos rfl, if_pos (show k < 32 - j by omega), lin_double.zero, if_neg (show ¬ k + 1 < 32 - j by omega), show k + 1 - (32 - j) = 0 by omega]
      simp [it]
    · have c1 : (decide (31 - k < 32) && decide (31 - k = j)) = false := by simp [e]
      rw [c1, if_neg (show ¬ (false = true) by decide)]
      by_cases h2 : k < 32 - j
      · rw [if_pos h2, if_pos (show k + 1 < 32 - j by omega), lin_double.zero]
        simp
      · rw [if_neg h2, if_neg (show ¬ k + 1 < 32 - j by omega), show k + 1 - (32 - j) = (k - (32 - j)) + 1 by omega]
        simp [it]
theorem times_unit (a : W) (j : Nat) (hj : j < 32) : times a (unit j) = it double j a := by
  unfold times
  rw [timesTo_unit a j hj 32 (Nat.le_refl _), if_neg (by omega), show 32 - (32 - j) = j by omega]
theorem times_poly (a : W) : times a 0x1EDC6F41#32 = it double 32 a := Lin.ext (lin_times_a _) (lin_double.it 32) (by decide +kernel) a
theorem double_unit : ∀ j, j < 31 → double (unit j) = unit (j + 1) := by decide +kernel
theorem double_top : double (unit 31) = 0x1EDC6F41#32 := by decide +kernel
theorem times_double (a b : W) : times a (double b) = double (times a b) := by
  refine Lin.ext ((lin_times_b a).comp lin_double) (lin_double.comp (lin_times_b a)) (fun i hi => ?_) b
  by_cases h : i < 31
  · rw [double_unit i h, times_unit a _ (by omega), times_unit a _ (by omega)]; rfl
  · obtain rfl : i = 31 := by omega
    rw [double_top, times_poly, times_unit a _ (by omega)]; rfl
theorem times_it (a b : W) (m : Nat) : times a (it double m b) = it double m (times a b) := by
  induction m with
  | zero => rfl
  | succ m ih => simp only [it, times_double, ih]
/-- u stands for so many doublings -/
def Acts (u : W) (m : Nat) : Prop := ∀ a, times a u = it double m a
theorem Acts.twice {u : W} {m : Nat} (h : Acts u m) : Acts (times u u) (m + m) := fun a => by
  rw [h u, times_it, h a, it_add]
theorem acts_unit : Acts (unit 8) 8 := fun a => times_unit a 8 (by decide)
theorem rev_join (a : W) (n : Nat) : rev (it (it double 8) n (rev a)) = it Z n a := by
  rw [← it_mul, ← rev_it, rev_rev, it_mul]; rfl

/-! ### Lists laid over one another -/
def lay (p q : List W) : List W := List.zipWith (· ^^^ ·) p q
theorem reg_lay (a b : W) : ∀ (p q : List W), p.length = q.length → reg a p ^^^ reg b q = reg (a ^^^ b) (lay p q)
  | [], [], _ => rfl
  | x :: p, y :: q, h => by
    have h' : p.length = q.length := by simpa using h
    show reg (Z (a ^^^ x)) p ^^^ reg (Z (b ^^^ y)) q = reg (Z (a ^^^ b ^^^ (x ^^^ y))) (lay p q)
    rw [reg_lay _ _ p q h', ← lin_Z, show a ^^^ x ^^^ (b ^^^ y) = a ^^^ b ^^^ (x ^^^ y) by ac_rfl]
  | [], _ :: _, h => absurd h (by simp)
  | _ :: _, [], h => absurd h (by simp)
theorem Z_zero0 : Z 0 = 0 := lin_Z.zero
theorem reg_zeros (n : Nat) (c : W) : reg c (List.replicate n 0) = it Z n c := by
  induction n generalizing c with
  | zero => rfl
  | succ n ih =>
    rw [List.replicate_succ, reg_cons, ih, show c ^^^ (0 : W) = c by simp, show it Z n (Z c) = it Z (n + 1) c by rw [it_add]; rfl]
theorem it_Z_zero (n : Nat) {c : W} (h : it Z n c = 0) : c = 0 := by
  induction n generalizing c with
  | zero => exact h
  | succ n ih => exact ih (Z_zero h)
theorem it_Z_of_zero (n : Nat) : it Z n 0 = 0 := (lin_Z.it n).zero
theorem lin_and (k : W) : Lin (fun c => c &&& k) := fun a b => by
  apply BitVec.eq_of_getLsbD_eq
  intro i hi
  simp only [BitVec.getLsbD_and, BitVec.getLsbD_xor]
  cases a.getLsbD i <;> cases b.getLsbD i <;> simp
theorem lin_shl_n (n : Nat) : Lin (fun c => c <<< n) := fun a b => by simp only [BitVec.shiftLeft_xor_distrib]
theorem byte_and (v : W) (h : v.toNat < 256) : v &&& 255 = v := by
  apply BitVec.eq_of_toNat_eq
  rw [BitVec.toNat_and, show (255 : W).toNat = 2 ^ 8 - 1 from rfl, Nat.and_two_pow_sub_one_eq_mod]
  omega
theorem byte_up1 (v : W) (h : v.toNat < 256) : it Z 1 (v <<< 8) = v := by
  have := Lin.ext (((lin_Z.it 1).comp (lin_shl_n 8)).comp (lin_and 255)) (lin_and 255) (by decide +kernel) v
  rwa [byte_and v h] at this
theorem byte_up2 (v : W) (h : v.toNat < 256) : it Z 2 (v <<< 16) = v := by
  have := Lin.ext (((lin_Z.it 2).comp (lin_shl_n 16)).comp (lin_and 255)) (lin_and 255) (by decide +kernel) v
  rwa [byte_and v h] at this
theorem byte_up3 (v : W) (h : v.toNat < 256) : it Z 3 (v <<< 24) = v := by
  have := Lin.ext (((lin_Z.it 3).comp (lin_shl_n 24)).comp (lin_and 255)) (lin_and 255) (by decide +kernel) v
  rwa [byte_and v h] at this
theorem reg_four (a b c d : W) (hb : b.toNat < 256) (hc : c.toNat < 256) (hd : d.toNat < 256) : reg 0 [a, b, c, d] = it Z 4 (a ^^^ (b <<< 8) ^^^ (c <<< 16) ^^^ (d <<< 24)) := by
  show Z (Z (Z (Z (0 ^^^ a) ^^^ b) ^^^ c) ^^^ d) = _
  rw [show (0 : W) ^^^ a = a by simp]
  have e1 : Z a ^^^ b = it Z 1 (a ^^^ (b <<< 8)) := by rw [lin_Z.it 1, byte_up1 b hb]; rfl
  have e2 : Z (it Z 1 (a ^^^ (b <<< 8))) ^^^ c = it Z 2 (a ^^^ (b <<< 8) ^^^ (c <<< 16)) := by rw [(lin_Z.it 2) _ (c <<< 16), byte_up2 c hc]; rfl
  have e3 : Z (it Z 2 (a ^^^ (b <<< 8) ^^^ (c <<< 16))) ^^^ d = it Z 3 (a ^^^ (b <<< 8) ^^^ (c <<< 16) ^^^ (d <<< 24)) := by rw [(lin_Z.it 3) _ (d <<< 24), byte_up3 d hd]; rfl
  rw [e1, e2, e3]; rfl
theorem bytes_zero (a b c d : W) (ha : a.toNat < 256) (hb : b.toNat < 256) (hc : c.toNat < 256) (hd : d.toNat < 256) (h : a ^^^ (b <<< 8) ^^^ (c <<< 16) ^^^ (d <<< 24) = 0) : a = 0 ∧ b = 0 ∧ c = 0 ∧ d = 0 := by
  have big : ∀ (x : W), x.toNat < 256 → ∀ i, 8 ≤ i → x.getLsbD i = false := by
    intro x hx i hi
    rw [BitVec.getLsbD, Nat.testBit_lt_two_pow (Nat.lt_of_lt_of_le hx (Nat.pow_le_pow_right (n := 2) (by decide) hi))]
  have hbit : ∀ i, (((a.getLsbD i ^^ (decide (i < 32) && !decide (i < 8) && b.getLsbD (i - 8))) ^^ (decide (i < 32) && !decide (i < 16) && c.getLsbD (i - 16))) ^^ (decide (i < 32) && !decide (i < 24) && d.getLsbD (i - 24))) = false := by
    intro i
    have := congrArg (fun x : W => x.getLsbD i) h
    simp only [BitVec.getLsbD_xor, BitVec.getLsbD_shiftLeft, zero_bit] at this
    exact this
  have out : ∀ (x : W), x.toNat < 256 → (∀ i, i < 8 → x.getLsbD i = false) → x = 0 := by
    intro x hx h8
    apply BitVec.eq_of_getLsbD_eq
    intro i hi
    rw [zero_bit]
    by_cases h9 : i < 8
    · exact h8 i h9
    · exact big x hx i (by omega)
  refine ⟨out a ha fun i hi => ?_, out b hb fun i hi => ?_, out c hc fun i hi => ?_, out d hd fun i hi => ?_⟩
  · have := hbit i
    simpa [show i < 32 by omega, show i < 8 by omega, show i < 16 by omega, show i < 24 by omega] using this
  · have := hbit (i + 8)
    rw [big a ha (i + 8) (by omega)] at this
    simpa [show i + 8 < 32 by omega, show ¬ i + 8 < 8 by omega, show i + 8 < 16 by omega, show i + 8 < 24 by omega] using this
  · have := hbit (i + 16)
    rw [big a ha (i + 16) (by omega), show i + 16 - 8 = i + 8 by omega, big b hb (i + 8) (by omega)] at this
    simpa [show i + 16 < 32 by omega, show ¬ i + 16 < 16 by omega, show i + 16 < 24 by omega] using this
  · have := hbit (i + 24)
    rw [big a ha (i + 24) (by omega), show i + 24 - 8 = i + 16 by omega, big b hb (i + 16) (by omega), show i + 24 - 16 = i + 8 by omega, big c hc (i + 8) (by omega)] at this
    simpa [show i + 24 < 32 by omega, show ¬ i + 24 < 24 by omega] using this
theorem reg_small : ∀ (z : List W), z.length ≤ 4 → (∀ v ∈ z, v.toNat < 256) → reg 0 z = 0 → ∀ v ∈ z, v = 0 := by
  intro z hz hb h
  have pad : reg 0 (z ++ List.replicate (4 - z.length) 0) = 0 := by rw [reg_append, h, reg_zeros, it_Z_of_zero]
  have hl : (z ++ List.replicate (4 - z.length) 0).length = 4 := by simp; omega
  have hb' : ∀ v ∈ z ++ List.replicate (4 - z.length) 0, v.toNat < 256 := by
    intro v hv
    rcases List.mem_append.1 hv with hv | hv
    · exact hb v hv
    · rw [(List.mem_replicate.1 hv).2]; decide
  have hall : ∀ v ∈ z ++ List.replicate (4 - z.length) 0, v = 0 := by
    revert pad hl hb'
    generalize z ++ List.replicate (4 - z.length) 0 = l
    intro pad hl hb'
    match l, hl with
    | [a, b, c, d], _ =>
      have ha := hb' a (by simp)
      have h2 := hb' b (by simp)
      have h3 := hb' c (by simp)
      have h4 := hb' d (by simp)
      rw [reg_four a b c d h2 h3 h4] at pad
      obtain ⟨rfl, rfl, rfl, rfl⟩ := bytes_zero a b c d ha h2 h3 h4 (it_Z_zero 4 pad)
      intro v hv
      simp at hv
      exact hv
  exact fun v hv => hall v (List.mem_append_left _ hv)

theorem lay_length (p q : List W) (h : p.length = q.length) : (lay p q).length = p.length := by simp [lay]; omega
theorem lay_get (p q : List W) (i : Nat) (hi : i < p.length) (hj : i < q.length) : (lay p q)[i]'(by simp [lay]; omega) = p[i] ^^^ q[i] := by simp [lay]
theorem xor_byte (x y : W) (hx : x.toNat < 256) (hy : y.toNat < 256) : (x ^^^ y).toNat < 256 := by
  rw [BitVec.toNat_xor]; exact Nat.xor_lt_two_pow (n := 8) hx hy
/-- unlike bytes within four neighbouring places are told -/
theorem tells (c : W) (p q : List W) (a : Nat) (hl : p.length = q.length) (hp : ∀ v ∈ p, v.toNat < 256) (hq : ∀ v ∈ q, v.toNat < 256)
    (he : ∀ i (hi : i < p.length) (hj : i < q.length), i < a ∨ a + 4 ≤ i → p[i] = q[i]) (h : reg c p = reg c q) : p = q := by
  have h0 : reg 0 (lay p q) = 0 := by
    have := reg_lay c c p q hl
    rw [h] at this
    simpa using this.symm
  have hll := lay_length p q hl
  have hby : ∀ v ∈ lay p q, v.toNat < 256 := by
    intro v hv
    obtain ⟨i, hi, rfl⟩ := List.getElem_of_mem hv
    rw [lay_get p q i (by omega) (by omega)]
    exact xor_byte _ _ (hp _ (List.getElem_mem _)) (hq _ (List.getElem_mem _))
  have hzero : ∀ i (hi : i < (lay p q).length), i < a ∨ a + 4 ≤ i → (lay p q)[i] = 0 := by
    intro i hi hc
    rw [lay_get p q i (by omega) (by omega), he i (by omega) (by omega) hc]; simp
  have hsplit : lay p q = List.replicate (min a (lay p q).length) 0 ++ (((lay p q).drop a).take 4 ++ List.replicate ((lay p q).length - (a + 4)) 0) := by
    apply List.ext_getElem
    · simp; omega
    · intro i h1 h2
      by_cases c1 : i < a
      · rw [List.getElem_append_left (by simp; omega), List.getElem_replicate]
        exact hzero i h1 (.inl c1)
      · rw [List.getElem_append_right (by simp; omega)]
        by_cases c2 : i < a + 4
        · rw [List.getElem_append_left (by simp; omega), List.getElem_take, List.getElem_drop]
          congr 1
          simp; omega
        · rw [List.getElem_append_right (by simp; omega), List.getElem_replicate]
          exact hzero i h1 (.inr (by omega))
  rw [hsplit, reg_append, reg_zeros, it_Z_of_zero, reg_append, reg_zeros] at h0
  have h1 := it_Z_zero _ h0
  have h2 := reg_small _ (by simp; omega) (fun v hv => hby v (List.mem_of_mem_drop (List.mem_of_mem_take hv))) h1
  apply List.ext_getElem hl
  intro i hi hj
  by_cases c1 : i < a ∨ a + 4 ≤ i
  · exact he i hi hj c1
  · have hm : (lay p q)[i]'(by omega) ∈ ((lay p q).drop a).take 4 := by
      have e : (lay p q)[i]'(by omega) = (((lay p q).drop a).take 4)[i - a]'(by simp; omega) := by
        rw [List.getElem_take, List.getElem_drop]
        congr 1
        omega
      rw [e]
      exact List.getElem_mem _
    have h3 := h2 _ hm
    rw [lay_get p q i hi hj] at h3
    have h4 : p[i] ^^^ q[i] ^^^ q[i] = 0 ^^^ q[i] := by rw [h3]
    simpa [BitVec.xor_assoc] using h4
theorem not_inj {x y : W} (h : ~~~ x = ~~~ y) : x = y := by
  have := congrArg (fun z => ~~~ z) h
  simpa using this
theorem sum_tells (p q : List W) (a : Nat) (hl : p.length = q.length) (hp : ∀ v ∈ p, v.toNat < 256) (hq : ∀ v ∈ q, v.toNat < 256)
    (he : ∀ i (hi : i < p.length) (hj : i < q.length), i < a ∨ a + 4 ≤ i → p[i] = q[i]) (h : sum p = sum q) : p = q :=
  tells _ p q a hl hp hq he (not_inj h)
theorem sum_linear (p q : List W) (hl : p.length = q.length) : sum p ^^^ sum q ^^^ sum (lay p q) = sum (List.replicate p.length 0) := by
  unfold sum upd
  rw [show ∀ a b c : W, ~~~ a ^^^ ~~~ b ^^^ ~~~ c = ~~~ (a ^^^ b ^^^ c) from fun a b c => by
    rw [not_eq, not_eq b, not_eq c, not_eq (a ^^^ b ^^^ c)]
    apply BitVec.eq_of_getLsbD_eq
    intro i hi
    simp only [BitVec.getLsbD_xor]
    cases a.getLsbD i <;> cases b.getLsbD i <;> cases c.getLsbD i <;> cases (BitVec.allOnes 32).getLsbD i <;> rfl]
  rw [reg_lay _ _ p q hl, reg_lay _ _ (lay p q) (lay p q) rfl]
  congr 1
  rw [show ~~~ (0 : W) ^^^ ~~~ (0 : W) ^^^ ~~~ (0 : W) = ~~~ (0 : W) by decide]
  congr 1
  apply List.ext_getElem
  · rw [lay_length _ _ rfl, lay_length _ _ hl]; simp
  · intro i h1 h2
    rw [lay_length _ _ rfl] at h1
    rw [lay_get _ _ i h1 h1]
    simp

end Go.Proofs.Ytlcbjjgmkllceaa.CrcMath

/- Words that the walks of this seat use: a word of 32 bits as a number, a list of bytes as it stands in memory, and what a call leaves as it was. -/
namespace Go.Proofs.Ytlcbjjgmkllceaa
open Go.RowKit
open CrcMath (W)

/-- a word as a number -/
def uI (x : W) : Int := (x.toNat : Int)
theorem uI_range (x : W) : 0 ≤ uI x ∧ uI x ≤ 4294967295 := by
  have := x.isLt
  unfold uI; omega
theorem uI_inj {x y : W} : uI x = uI y ↔ x = y := by
  unfold uI
  constructor
  · intro h; exact BitVec.eq_of_toNat_eq (by omega)
  · intro h; rw [h]
theorem uI_of (n : Int) (h0 : 0 ≤ n) (h1 : n ≤ 4294967295) : uI (BitVec.ofInt 32 n) = n := by
  unfold uI
  rw [BitVec.toNat_ofInt]; omega
theorem ofInt_uI (x : W) : BitVec.ofInt 32 (uI x) = x := by
  unfold uI
  rw [BitVec.ofInt_natCast]; simp
theorem wrap_uI (x : W) : IntKind.u32.wrap (uI x) = uI x := by
  have := uI_range x
  rw [IntKind.wrap_u32]; omega
theorem bits_xor_uI (x y : W) : bits .xor .u32 (uI x) (uI y) = uI (x ^^^ y) := by
  show IntKind.u32.wrap ((BitVec.ofInt 32 (uI x) ^^^ BitVec.ofInt 32 (uI y)).toNat : Int) = _
  rw [ofInt_uI, ofInt_uI]; exact wrap_uI _
theorem bits_xor_lit (x : W) (n : Int) : bits .xor .u32 (uI x) n = uI (x ^^^ BitVec.ofInt 32 n) := by
  show IntKind.u32.wrap ((BitVec.ofInt 32 (uI x) ^^^ BitVec.ofInt 32 n).toNat : Int) = _
  rw [ofInt_uI]; exact wrap_uI _
theorem bits_and_one (x : W) : bits .and .u32 (uI x) 1 = if x.getLsbD 0 then 1 else 0 := by
  show IntKind.u32.wrap ((BitVec.ofInt 32 (uI x) &&& BitVec.ofInt 32 1).toNat : Int) = _
  rw [ofInt_uI]
  rw [show ((x &&& BitVec.ofInt 32 1).toNat : Int) = uI (x &&& BitVec.ofInt 32 1) from rfl, wrap_uI]
  unfold uI
  rw [BitVec.toNat_and, show (BitVec.ofInt 32 1).toNat = 1 from rfl, Nat.and_one_is_mod]
  have : x.getLsbD 0 = decide (x.toNat % 2 = 1) := by
    rw [BitVec.getLsbD, Nat.testBit_zero]
  rw [this]
  by_cases h : x.toNat % 2 = 1
  · simp [h]
  · simp [h]; omega
theorem uI_half (x : W) : uI x / (2 : Int) = uI (x >>> 1) := by
  unfold uI
  rw [BitVec.toNat_ushiftRight, Nat.shiftRight_eq_div_pow]; omega
theorem uI_not (x : W) : bits .xor .u32 IntKind.u32.max (uI x) = uI (~~~ x) := by
  rw [show IntKind.u32.max = 4294967295 from rfl]
  show IntKind.u32.wrap ((BitVec.ofInt 32 4294967295 ^^^ BitVec.ofInt 32 (uI x)).toNat : Int) = _
  rw [ofInt_uI, show BitVec.ofInt 32 4294967295 ^^^ x = ~~~ x by rw [CrcMath.not_eq, BitVec.xor_comm]; rfl]; exact wrap_uI _

/-- a byte as a number, and as a word -/
def uB (b : UInt8) : Int := (b.toNat : Int)
def bW (b : UInt8) : W := BitVec.ofNat 32 b.toNat
theorem uB_range (b : UInt8) : 0 ≤ uB b ∧ uB b ≤ 255 := by
  have := b.toNat_lt
  unfold uB; omega
theorem uI_bW (b : UInt8) : uI (bW b) = uB b := by
  have := b.toNat_lt
  unfold uI bW uB
  rw [BitVec.toNat_ofNat]; omega
theorem bits_xor_byte (x : W) (b : UInt8) : bits .xor .u32 (uI x) (uB b) = uI (x ^^^ bW b) := by rw [← uI_bW]; exact bits_xor_uI _ _

/-- the bytes p stand from A on; there is room for c -/
structure RB (w : World) (A : Option Addr) (c : Nat) (p : List UInt8) : Prop where
  out : 0 < p.length → ∃ a, A = some a ∧ ∀ i (h : i < p.length), w.cell? (a.add i) = some (.int .u8 (uB p[i]))
  nil : A = none → c = 0 ∧ p = []
  len : p.length ≤ c
  cap : c ≤ 9223372036854775807
theorem RB.void (w : World) : RB w none 0 [] := ⟨fun h => absurd h (by simp), fun _ => ⟨rfl, rfl⟩, Nat.le_refl _, by decide⟩
theorem RB.at_ {w : World} {A : Option Addr} {c : Nat} {p : List UInt8} (h : RB w A c p) (i : Nat) (hi : i < p.length) : ∃ a, A = some a ∧ w.cell? (a.add i) = some (.int .u8 (uB p[i])) := by
  obtain ⟨a, e, hc⟩ := h.out (by omega)
  exact ⟨a, e, hc i hi⟩
theorem RB.small {w : World} {A : Option Addr} {c : Nat} {p : List UInt8} (h : RB w A c p) : p.length ≤ 9223372036854775807 := Nat.le_trans h.len h.cap
/-- where p stands lies below block B -/
structure Old (B : Nat) (A : Option Addr) (p : List UInt8) : Prop where
  out : ∀ a, A = some a → 0 < p.length → a.block < B
theorem RB.old {w : World} {A : Option Addr} {c : Nat} {p : List UInt8} (h : RB w A c p) : Old w.heap.size A p := by
  refine ⟨fun a e hp => ?_⟩
  obtain ⟨a', e', hc⟩ := h.out hp
  rw [e] at e'
  obtain rfl := Option.some.inj e'
  have := World.block_lt_of_cell? w _ (hc 0 hp)
  simpa [Addr.add] using this
theorem Old.mono {B B' : Nat} {A : Option Addr} {p : List UInt8} (h : Old B A p) (hB : B ≤ B') : Old B' A p := ⟨fun a e hp => Nat.lt_of_lt_of_le (h.out a e hp) hB⟩
theorem block_add (a : Addr) (i : Nat) : (a.add i).block = a.block := by unfold Addr.add; split <;> rfl
/-- p still stands there, where its block is as it was -/
theorem RB.keep {w w' : World} {A : Option Addr} {c : Nat} {p : List UInt8} (h : RB w A c p) (hk : ∀ a, A = some a → 0 < p.length → w'.heap[a.block]? = w.heap[a.block]?) : RB w' A c p := by
  refine ⟨fun hp => ?_, h.nil, h.len, h.cap⟩
  obtain ⟨a, e, hr⟩ := h.out hp
  exact ⟨a, e, fun i hi => (World.cell?_of_block (a := a.add i) (by rw [block_add]; exact hk a e hp)).trans (hr i hi)⟩
theorem RB.below {w w' : World} {B : Nat} {A : Option Addr} {c : Nat} {p : List UInt8} (h : RB w A c p) (hb : Below B w w') (ho : Old B A p) : RB w' A c p :=
  h.keep fun a e hp => hb.block _ (ho.out a e hp)
/-- new memory alone: all that stood stands -/
theorem RB.new {w w' : World} {A : Option Addr} {c : Nat} {p : List UInt8} (h : RB w A c p) (hb : Below w.heap.size w w') : RB w' A c p := h.below hb h.old

def encB (p : List UInt8) : List Value := p.map fun b => .int .u8 (uB b)
theorem encB_length (p : List UInt8) : (encB p).length = p.length := by simp [encB]
theorem encB_append (p q : List UInt8) : encB (p ++ q) = encB p ++ encB q := by simp [encB]
theorem encB_one (p : List UInt8) : ∀ u ∈ encB p, u.oneCell' = true := by
  intro u hu
  simp only [encB, List.mem_map] at hu
  obtain ⟨b, _, rfl⟩ := hu
  rfl
theorem encB_get (p : List UInt8) (j : Nat) (u : Value) (h : (encB p)[j]? = some u) : ∃ hj : j < p.length, u = .int .u8 (uB p[j]) := by
  simp only [encB, List.getElem?_map] at h
  by_cases hj : j < p.length
  · rw [List.getElem?_eq_getElem hj] at h
    exact ⟨hj, (Option.some.inj h).symm⟩
  · rw [List.getElem?_eq_none (by omega)] at h
    exact absurd h (by simp)
theorem RB.cells {w : World} {a : Addr} {c : Nat} {p : List UInt8} (h : RB w (some a) c p) : ∀ j u, (encB p)[j]? = some u → w.cell? (a.add j) = some u := by
  intro j u hu
  obtain ⟨hj, rfl⟩ := encB_get p j u hu
  obtain ⟨a', e, hc⟩ := h.at_ j hj
  obtain rfl := Option.some.inj e
  exact hc

/-- v is a slice whose row begins a block of its own from base on (or nil): p stands in it -/
structure OB (w : World) (base e : Nat) (v : Value) (p : List UInt8) : Prop where
  out : w.ownsRow base e 1 v p.length (encB p)
theorem OB.nil (w : World) (base e : Nat) : OB w base e (.slice none 0 0) [] := ⟨World.ownsRow_nil w base e 1⟩
theorem OB.form {w : World} {base e : Nat} {v : Value} {p : List UInt8} (h : OB w base e v p) : ∃ A c, v = .slice A p.length c ∧ RB w A c p := by
  have h0 := h.out
  rcases h0.2 with ⟨rfl, hn⟩ | ⟨g, cap, cur, rfl, hb, hh, hn, hc, hs, ht⟩
  · have : p = [] := List.eq_nil_of_length_eq_zero hn
    subst this
    exact ⟨none, 0, rfl, RB.void w⟩
  · refine ⟨_, cap, rfl, ⟨fun hp => ⟨_, rfl, fun i hi => ?_⟩, fun e => absurd e (by simp), hn, by unfold maxLen at hc; exact hc⟩⟩
    refine h0.cells (g := g) rfl i _ ?_
    simp [encB, hi]
theorem OB.at_base {w : World} {base e : Nat} {v : Value} {p : List UInt8} (h : OB w base e v p) : ∀ k, v.ownBlock = some k → base ≤ k ∧ k < w.heap.size := h.out.lt
theorem OB.keep {w w' : World} {base e : Nat} {v : Value} {p : List UInt8} (h : OB w base e v p) {row : Option Nat} (hg : w.grownBy w' row) (hne : v.ownBlock = none ∨ v.ownBlock ≠ row) : OB w' base e v p := ⟨h.out.kept hg hne⟩
theorem grown_of_below {w w1 : World} (h : Below w.heap.size w w1) (row : Option Nat) : w.grownBy w1 row := ⟨h.os, h.tape, h.output, h.size, fun i hi _ => h.block i hi⟩
theorem OB.new {w w' : World} {base e : Nat} {v : Value} {p : List UInt8} (h : OB w base e v p) (hb : Below w.heap.size w w') : OB w' base e v p :=
  h.keep (grown_of_below hb none) (by cases v.ownBlock <;> simp)
theorem OB.mono {w : World} {base base' e : Nat} {v : Value} {p : List UInt8} (h : OB w base e v p) (hb : base' ≤ base) : OB w base' e v p := by
  refine ⟨h.out.1, ?_⟩
  rcases h.out.2 with h2 | ⟨g, cap, cur, rfl, hg, r⟩
  · exact .inl h2
  · exact .inr ⟨g, cap, cur, rfl, Nat.le_trans hb hg, r⟩
theorem below_grown {B : Nat} {w0 w w' : World} {base e : Nat} {v : Value} {p : List UInt8} (h : Below B w0 w) (ho : OB w base e v p) (hg : w.grownBy w' v.ownBlock) (hB : B ≤ w.heap.size) (hb : B ≤ base) : Below B w0 w' :=
  h.grown hg hB fun k hk => Nat.le_trans hb (ho.at_base k hk).1

/-- the types of bytes and of lists of bytes -/
structure ByteT (P : Program) (t e : TypeId) : Prop where
  sl : P.underlying t = some (.slice e)
  info : (P.info? e).map (fun i => (i.zero, i.size, i.bytes)) = some (some (.int .u8 0), 1, 1)

section
variable {P : Program} {t e : TypeId} {w : World} {ops : Array Oper} {rest : List Oper} {o : Oper} {a : Act} {Q : Exit → Act → World → Prop}

/-- make([]byte, n) -/
theorem wp_makeB (bt : ByteT P t e) (hg : o.guard = none) (l c : Operand) (hop : o.op = Op.makeSlice t l c) (kl kc : IntKind) (C : Int) (n : Nat) (hl : a.eval l = .int kl C) (hc : a.eval c = .int kc C) (hC : C = n) (hn : n ≤ 281474976710656) (base : Nat) (hbase : base ≤ w.heap.size)
    (h : ∀ w', OB w' base e (.slice (some ⟨w.heap.size, 0, none⟩) n n) (List.replicate n 0) → Below w.heap.size w w' → wpList P ops Q rest (a.put o.dst (.slice (some ⟨w.heap.size, 0, none⟩) n n)) w') : wpList P ops Q (o :: rest) a w := by
  obtain ⟨i, hi, hz, hs, hb⟩ := info_parts bt.info
  refine wpList_make_full w hg l c t hop base e i (.int .u8 0) 1 bt.sl hi hz hs kl kc C C n hl hc hC hC (by rw [hb]; omega) (by unfold maxLen; omega) hbase fun w' h1 h2 => ?_
  refine h w' ⟨?_⟩ ⟨h2.os, h2.tape, h2.output, h2.size, fun k hk => h2.block k hk (by simp)⟩
  have e1 : (madeCells (Value.int .u8 0).cells (n * 1)).toList = encB (List.replicate n 0) := by
    rw [Nat.mul_one]
    apply List.ext_getElem
    · simp [madeCells, encB]
    · intro j h1 h2
      simp [madeCells, encB, Value.cells, uB, Nat.mod_one]
  rw [e1] at h1
  simpa using h1

/-- make([]byte, 0, n) -/
theorem wp_makeB0 (bt : ByteT P t e) (hg : o.guard = none) (l c : Operand) (hop : o.op = Op.makeSlice t l c) (kl kc : IntKind) (C : Int) (n : Nat) (hl : a.eval l = .int kl 0) (hc : a.eval c = .int kc C) (hC : C = n) (hn : n ≤ 281474976710656) (base : Nat) (hbase : base ≤ w.heap.size)
    (h : ∀ w', OB w' base e (.slice (some ⟨w.heap.size, 0, none⟩) 0 n) [] → Below w.heap.size w w' → wpList P ops Q rest (a.put o.dst (.slice (some ⟨w.heap.size, 0, none⟩) 0 n)) w') : wpList P ops Q (o :: rest) a w := by
  obtain ⟨i, hi, hz, hs, hb⟩ := info_parts bt.info
  refine wpList_make_own w hg l c t hop base e i (.int .u8 0) 1 bt.sl hi hz hs kl kc C n hl hc hC (by rw [hb]; omega) (by unfold maxLen; omega) hbase fun w' h1 h2 => ?_
  exact h w' ⟨h1⟩ ⟨h2.os, h2.tape, h2.output, h2.size, fun k hk => h2.block k hk (by simp)⟩

/-- append(v, x...) -/
theorem wp_appendB (bt : ByteT P t e) (hg : o.guard = none) (s x : Operand) (hop : o.op = .call { callee := .builtin .append, args := #[s, x], argTypes := #[t, t] })
    (base : Nat) (v : Value) (p : List UInt8) (hs : a.eval s = v) (ho : OB w base e v p) (A : Option Addr) (q : List UInt8) (n c : Nat) (hx : a.eval x = .slice A n c) (hn : n = q.length) (hq : RB w A c q)
    (hlen : p.length + q.length ≤ 140737488355328) (hbase : base ≤ w.heap.size)
    (h : ∀ v' w', OB w' base e v' (p ++ q) → w.grownBy w' v.ownBlock → (v' = .slice none 0 0 ↔ v = .slice none 0 0 ∧ q = []) → wpList P ops Q rest (a.put o.dst v') w') : wpList P ops Q (o :: rest) a w := by
  subst hn
  obtain ⟨i, hi, hz, hsz, hb⟩ := info_parts bt.info
  cases A with
  | none =>
    obtain ⟨rfl, rfl⟩ := hq.nil rfl
    refine wpList_append_own_none hg s x t hop base e i 1 bt.sl hi v p.length (encB p) hs ho.out hx ?_
    refine h v w (by simpa using ho) ⟨rfl, rfl, rfl, Nat.le_refl _, fun _ _ _ => rfl⟩ (by simp)
  | some ad =>
    refine wpList_append_own w hg s x t hop base e i (.int .u8 0) 1 1 bt.sl hi hz hsz hb rfl (by decide) v p.length (encB p) hs ho.out ad q.length c (encB q) hx (by rw [encB_length, Nat.mul_one]) hq.cells (encB_one q) (by unfold maxLen; omega) (by omega) hbase fun v' w' h1 h2 h3 => ?_
    refine h v' w' ⟨by simpa [encB_append] using h1⟩ h2 (h3.trans ?_)
    simp

/-- append within the room there is -/
theorem wp_appendB_fits (bt : ByteT P t e) (hg : o.guard = none) (s x : Operand) (hop : o.op = .call { callee := .builtin .append, args := #[s, x], argTypes := #[t, t] })
    (base g cap : Nat) (p : List UInt8) (k : Nat) (hk : k = p.length) (hs : a.eval s = .slice (some ⟨g, 0, none⟩) k cap) (ho : OB w base e (.slice (some ⟨g, 0, none⟩) k cap) p) (A : Option Addr) (q : List UInt8) (n c : Nat) (hx : a.eval x = .slice A n c) (hn : n = q.length) (hq : RB w A c q)
    (hroom : p.length + q.length ≤ cap) (r : List UInt8) (hr : p ++ q = r)
    (h : ∀ w', OB w' base e (.slice (some ⟨g, 0, none⟩) r.length cap) r → w.grownBy w' (some g) → wpList P ops Q rest (a.put o.dst (.slice (some ⟨g, 0, none⟩) r.length cap)) w') : wpList P ops Q (o :: rest) a w := by
  subst hn
  subst hk
  subst hr
  obtain ⟨i, hi, hz, hsz, hb⟩ := info_parts bt.info
  cases A with
  | none =>
    obtain ⟨rfl, rfl⟩ := hq.nil rfl
    refine wpList_append_own_none hg s x t hop base e i 1 bt.sl hi _ p.length (encB p) hs ho.out hx ?_
    have h' := h w (by simpa using ho) ⟨rfl, rfl, rfl, Nat.le_refl _, fun _ _ _ => rfl⟩
    simpa using h'
  | some ad =>
    refine wpList_append_fits w hg s x t hop base e i 1 bt.sl hi hsz g p.length cap (encB p) hs ho.out ad q.length c (encB q) hx (by rw [encB_length, Nat.mul_one]) hq.cells (encB_one q) hroom fun w' h1 h2 => ?_
    have h' := h w' ⟨by simpa [encB_append] using h1⟩ h2
    simpa using h'

/-- copy over a list of the same length -/
theorem wp_copyB (bt : ByteT P t e) (hg : o.guard = none) (d s : Operand) (hop : o.op = .call { callee := .builtin .copy, args := #[d, s], argTypes := #[t, t] })
    (base g cap : Nat) (z q : List UInt8) (m : Nat) (hd : a.eval d = .slice (some ⟨g, 0, none⟩) m cap) (ho : OB w base e (.slice (some ⟨g, 0, none⟩) m cap) z) (A : Option Addr) (n c : Nat) (hx : a.eval s = .slice A n c) (hn : n = q.length) (hm : m = q.length) (hz : z.length = q.length) (hq : RB w A c q)
    (h : ∀ w', OB w' base e (.slice (some ⟨g, 0, none⟩) m cap) q → w.grownBy w' (some g) → wpList P ops Q rest (a.put o.dst (goInt q.length)) w') : wpList P ops Q (o :: rest) a w := by
  subst hn
  subst hm
  obtain ⟨i, hi, hzz, hsz, hb⟩ := info_parts bt.info
  have hsize : (P.info? e).map (·.size) = some 1 := by rw [hi, Option.map_some, hsz]
  rcases ho.out.2 with ⟨h0, _⟩ | ⟨g', cap', cur, hv, hbg, hh, hn', hc', hs', ht'⟩
  · exact absurd h0 (by simp)
  obtain ⟨rfl, rfl⟩ : g' = g ∧ cap' = cap := by simp at hv; exact ⟨hv.1.symm, hv.2.2.symm⟩
  rw [Nat.mul_one] at hs'
  cases A with
  | none =>
    obtain ⟨rfl, rfl⟩ := hq.nil rfl
    refine wpList_copy_nothing hg d s t t hop e bt.sl hsize _ none _ cap' 0 0 hd hx (by simp) ?_
    refine h w ?_ ⟨rfl, rfl, rfl, Nat.le_refl _, fun _ _ _ => rfl⟩
    have : z = [] := List.eq_nil_of_length_eq_zero (by simpa using hz)
    subst this
    exact ho
  | some ad =>
    refine wpList_copy_own hg d s t t hop e bt.sl hsize g' 0 q.length cap' ad q.length c hd hx cur e hh (encB q) (by simp [encB_length]) hq.cells (by rw [encB_length]; omega) (encB_one q) ?_
    rw [encB_length]
    refine h _ ⟨encB_length q |>.trans (Nat.mul_one _).symm, .inr ⟨g', cap', _, rfl, hbg, setRow_heap _ _ _ _ _ _ hh, hn' |> fun x => by omega, hc', ?_, ?_⟩⟩ ⟨rfl, rfl, rfl, by simp, fun k _ hk => setRow_other _ _ _ _ (fun e => hk (by rw [e]))⟩
    · simp [encB_length]; omega
    · simp only [List.take_zero, List.nil_append]
      rw [Nat.mul_one, ← encB_length q]
      exact List.take_left
end

/-- a byte is written in a row of the call's own -/
theorem OB.set {w : World} {base e g m cap : Nat} {p : List UInt8} (h : OB w base e (.slice (some ⟨g, 0, none⟩) m cap) p) (k : Nat) (b : UInt8) :
    OB (w.setCell ⟨g, k, none⟩ (.int .u8 (uB b))) base e (.slice (some ⟨g, 0, none⟩) m cap) (p.set k b) ∧ w.grownBy (w.setCell ⟨g, k, none⟩ (.int .u8 (uB b))) (some g) := by
  refine ⟨⟨?_⟩, ⟨rfl, rfl, rfl, by simp [World.setCell], fun j _ hj => heap_setCell_other _ _ _ _ (fun e => hj (by rw [e]))⟩⟩
  rcases h.out.2 with ⟨h0, _⟩ | ⟨g', cap', cur, hv, hbg, hh, hn', hc', hs', ht'⟩
  · exact absurd h0 (by simp)
  obtain ⟨rfl, rfl, rfl⟩ : g' = g ∧ m = p.length ∧ cap' = cap := by simp at hv; exact ⟨hv.1.symm, hv.2.1, hv.2.2.symm⟩
  refine ⟨by simp [encB], .inr ⟨g', cap', _, by simp, hbg, heap_setCell_same _ _ _ cur e _ hh, by simpa using hn', hc', by simpa using hs', ?_⟩⟩
  rw [Array.toList_setIfInBounds, List.take_set, List.length_set, ht']
  simp [encB, List.map_set]
theorem OB.cell {w : World} {base e g m cap : Nat} {p : List UInt8} (h : OB w base e (.slice (some ⟨g, 0, none⟩) m cap) p) (k : Nat) (hk : k < p.length) :
    w.cell? ⟨g, k, none⟩ = some (.int .u8 (uB p[k])) ∧ w.frozen? ⟨g, k, none⟩ = false := by
  rcases h.out.2 with ⟨h0, _⟩ | ⟨g', cap', cur, hv, hbg, hh, hn', hc', hs', ht'⟩
  · exact absurd h0 (by simp)
  obtain ⟨rfl, rfl, rfl⟩ : g' = g ∧ m = p.length ∧ cap' = cap := by simp at hv; exact ⟨hv.1.symm, hv.2.1, hv.2.2.symm⟩
  refine ⟨?_, frozen_of_row _ _ _ _ _ hh⟩
  have := h.out.cells (g := g') rfl k (.int .u8 (uB p[k])) (by simp [encB, hk])
  rw [show (⟨g', 0, none⟩ : Addr).add k = ⟨g', k, none⟩ by unfold Addr.add; split <;> simp_all] at this
  exact this
theorem OB.grown_eq {w : World} {base e g m cap : Nat} {p : List UInt8} (h : OB w base e (.slice (some ⟨g, 0, none⟩) m cap) p) : base ≤ g ∧ g < w.heap.size := h.at_base g rfl
theorem OB.len {w : World} {base e m cap : Nat} {A : Option Addr} {p : List UInt8} (h : OB w base e (.slice A m cap) p) : m = p.length := by
  rcases h.out.2 with ⟨h0, h1⟩ | ⟨g', cap', cur, hv, _⟩
  · simp at h0; omega
  · simp at hv; exact hv.2.1
theorem OB.reads {w : World} {base e m cap : Nat} {A : Option Addr} {p : List UInt8} (h : OB w base e (.slice A m cap) p) : RB w A cap p := by
  obtain ⟨A', c', hv, hr⟩ := h.form
  simp at hv
  obtain ⟨rfl, _, rfl⟩ := hv
  exact hr
theorem RB.take {w : World} {A : Option Addr} {c : Nat} {p : List UInt8} (h : RB w A c p) (n : Nat) : RB w A c (p.take n) := by
  refine ⟨fun hp => ?_, fun e => ?_, Nat.le_trans (List.length_take_le' _ _) h.len, h.cap⟩
  · obtain ⟨a, e, hc⟩ := h.out (by simp at hp; omega)
    refine ⟨a, e, fun i hi => ?_⟩
    have := hc i (by simp at hi; omega)
    rw [List.getElem_take]
    exact this
  · obtain ⟨h1, rfl⟩ := h.nil e
    exact ⟨h1, by simp⟩

/-- a byte in a new block of its own (append's argument) -/
theorem RB.one (w : World) (e : TypeId) (b : UInt8) : RB (w.alloc (.cells #[.int .u8 (uB b)] e)) (some ⟨w.heap.size, 0, none⟩) 1 [b] := by
  refine ⟨fun _ => ⟨_, rfl, fun i hi => ?_⟩, fun e => absurd e (by simp), by simp, by decide⟩
  obtain rfl : i = 0 := by simpa using hi
  rw [show (⟨w.heap.size, 0, none⟩ : Addr).add 0 = ⟨w.heap.size, 0, none⟩ from rfl, cell_of_row _ _ _ _ _ _ (heap_alloc_new w _)]
  rfl
/-- bytes that a literal lays -/
theorem RB.lit (w : World) (e : TypeId) (f : Nat × Nat) (C : Array Value) (p : List UInt8) (h : C = (encB p).toArray) (n : Nat) (hn : n = p.length) (hs : p.length ≤ 1000) : RB (w.alloc (.cells C e f)) (some ⟨w.heap.size, 0, none⟩) n p := by
  subst h
  subst hn
  refine ⟨fun _ => ⟨_, rfl, fun i hi => ?_⟩, fun e => absurd e (by simp), Nat.le_refl _, by omega⟩
  rw [show (⟨w.heap.size, 0, none⟩ : Addr).add i = ⟨w.heap.size, i, none⟩ by unfold Addr.add; split <;> simp_all, cell_of_row _ _ _ _ _ _ (heap_alloc_new w _)]
  simp [encB, hi]
theorem below_alloc1 {B : Nat} {w0 w : World} (h : Below B w0 w) (hB : B ≤ w.heap.size) (o : Obj) : Below B w0 (w.alloc o) := h.alloc hB o
theorem OB.alloc {w : World} {base e : Nat} {v : Value} {p : List UInt8} (h : OB w base e v p) (o : Obj) : OB (w.alloc o) base e v p := ⟨h.out.alloc o⟩

/-- the world is the old one; some orders were drawn -/
structure Drawn (w w' : World) : Prop where
  out : ∃ n, w' = w.drewN n
theorem Drawn.refl (w : World) : Drawn w w := ⟨0, rfl⟩
theorem Drawn.below {w w' : World} (h : Drawn w w') (B : Nat) : Below B w w' := by
  obtain ⟨n, rfl⟩ := h.out
  exact ⟨rfl, rfl, rfl, Nat.le_refl _, fun _ _ => rfl⟩
theorem Drawn.trans {w w1 w2 : World} (h : Drawn w w1) (k : Drawn w1 w2) : Drawn w w2 := by
  obtain ⟨n, rfl⟩ := h.out
  obtain ⟨m, rfl⟩ := k.out
  exact ⟨n + m, World.drewN_drewN ..⟩

theorem Drawn.cell {w w' : World} (h : Drawn w w') {a : Addr} {v : Option Value} (hc : w.cell? a = v) : w'.cell? a = v := by
  obtain ⟨n, rfl⟩ := h.out
  exact hc
theorem Drawn.step {w w' : World} (h : Drawn w w') (n : Nat) : Drawn w (w'.drewN n) := h.trans ⟨n, rfl⟩
theorem RB.drawn {w : World} {A : Option Addr} {c : Nat} {p : List UInt8} (h : RB w A c p) (n : Nat) : RB (w.drewN n) A c p := h.new ((⟨⟨n, rfl⟩⟩ : Drawn w (w.drewN n)).below _)
theorem below_drew (B : Nat) (w : World) : Below B w w.drew := (Below.refl B w).drew
theorem ret_bool {a b : Bool} (h : a = b) : Ending.returned (.bool a) = .returned (.bool b) := by rw [h]
theorem ret_int {k : IntKind} {a b : Int} (h : a = b) : Ending.returned (.int k a) = .returned (.int k b) := by rw [h]
end Go.Proofs.Ytlcbjjgmkllceaa

/- The walks of the small functions on lists of bytes that the statements use: Twin, Join, Same, Spare, Kept, Over. -/
namespace Go.Proofs.Ytlcbjjgmkllceaa
open Go.RowKit

theorem bt : ByteT Try.prog 23 5 := ⟨Try.underlying23, by kernel_rfl⟩

/-- a list of bytes in new memory -/
structure NewB (w w' : World) (v : Value) (p : List UInt8) : Prop where
  own : OB w' w.heap.size 5 v p
  below : Below w.heap.size w w'

theorem twin_exact (A : Option Addr) (p : List UInt8) (cap : Nat) (w : World) (hp : RB w A cap p) (hl : p.length ≤ 140737488355328) :
    Calls Try.prog 12 #[.slice A p.length cap] w fun e w' => e = .returned (.slice (some ⟨w.heap.size, 0, none⟩) p.length p.length) ∧ NewB w w' (.slice (some ⟨w.heap.size, 0, none⟩) p.length p.length) p := by
  go_enter Try.func12, Try.ntmps12
  go_wp2_with (first | (refine wp_makeB bt rfl _ _ rfl .i64 .i64 p.length p.length rfl rfl rfl (by omega) w.heap.size (Nat.le_refl _) fun w1 ho hb => ?_) | (refine wp_copyB bt rfl _ _ rfl w.heap.size w.heap.size p.length _ p p.length rfl ho A p.length cap rfl rfl rfl (by simp) (hp.new hb) fun w2 ho2 hg2 => ?_))
  go_ret
  exact ⟨rfl, ho2, hb.grown hg2 hb.size (fun k e => by have := Option.some.inj e; omega)⟩
theorem twin_calls (A : Option Addr) (p : List UInt8) (cap : Nat) (w : World) (hp : RB w A cap p) (hl : p.length ≤ 140737488355328) :
    Calls Try.prog 12 #[.slice A p.length cap] w fun e w' => ∃ A' c', e = .returned (.slice A' p.length c') ∧ NewB w w' (.slice A' p.length c') p :=
  (twin_exact A p cap w hp hl).mono fun _ _ ⟨h1, h2⟩ => ⟨_, _, h1, h2⟩


theorem uB_ofNat (n : Nat) : uB (UInt8.ofNat n) = (n : Int) % 256 := by
  unfold uB
  rw [UInt8.toNat_ofNat']
  omega

theorem join_bytes_calls (A B : Option Addr) (p q : List UInt8) (c d : Nat) (w : World) (hp : RB w A c p) (hq : RB w B d q) (hl : p.length + q.length ≤ 281474976710656) :
    Calls Try.prog 43 #[.slice A p.length c, .slice B q.length d] w fun e w' => ∃ A' c', e = .returned (.slice A' (p ++ q).length c') ∧ NewB w w' (.slice A' (p ++ q).length c') (p ++ q) := by
  go_enter Try.func43, Try.ntmps43
  go_wp2_with (first | (refine wp_makeB0 bt rfl _ _ rfl .i64 .i64 _ (p.length + q.length) rfl rfl (by omega) (by omega) w.heap.size (Nat.le_refl _) fun w1 ho hb => ?_) | (refine wp_appendB_fits bt rfl (.tmp 12) (.tmp 13) rfl w.heap.size w.heap.size (p.length + q.length) [] 0 rfl rfl ho A p p.length c rfl rfl (hp.new hb) (by simp) p rfl fun w2 ho2 hg2 => ?_) | (refine wp_appendB_fits bt rfl (.tmp 15) (.tmp 16) rfl w.heap.size w.heap.size (p.length + q.length) p p.length rfl rfl ho2 B q q.length d rfl rfl (hq.below (hb.grown hg2 hb.size (fun k e => by have := Option.some.inj e; omega)) hq.old) (by simp) (p ++ q) rfl fun w3 ho3 hg3 => ?_))
  go_ret
  refine ⟨some ⟨w.heap.size, 0, none⟩, p.length + q.length, ?_, ho3, ?_⟩
  · simp
  · exact (hb.grown hg2 hb.size (fun k e => by have := Option.some.inj e; omega)).grown hg3 (Nat.le_trans hb.size hg2.size) (fun k e => by have := Option.some.inj e; omega)

theorem same_calls (A B : Option Addr) (p q : List UInt8) (c d : Nat) (w : World) (hp : RB w A c p) (hq : RB w B d q) :
    Calls Try.prog 9 #[.slice A p.length c, .slice B q.length d] w fun e w' => e = .returned (.bool (p == q)) ∧ Drawn w w' := by
  by_cases hn : p.length = q.length
  · have hb : ((p.length : Int) != (q.length : Int)) = false := by rw [hn]; simp
    have HN := Lib.hid hn
    clear hn
    have hs := hp.small
    go_enter Try.func9, Try.ntmps9
    go_wp2
    go_loopw [13] (fun i wr => ∃ k : Nat, k ≤ p.length ∧ i = .int .i64 k ∧ Drawn w wr ∧ Hid (p.take k = q.take k)) (fun i _ => p.length - (intOf i).toNat)
    case atStart => exact ⟨0, by omega, rfl, Drawn.refl _, Lib.hid rfl⟩
    case round =>
      obtain ⟨k, hk, rfl, HD, HT⟩ := hrel
      obtain ⟨m, rfl⟩ := HD.out
      by_cases hlt : k < p.length
      · have hlt2 : k < q.length := by rw [← HN.out]; exact hlt
        obtain ⟨a, rfl, hc⟩ := hp.at_ k hlt
        obtain ⟨b, rfl, hd⟩ := hq.at_ k hlt2
        have i0 : (0 : Int) ≤ (k : Int) := by omega
        have i1 : (k : Int) < (p.length : Int) := by omega
        have i2 : (k : Int) < (q.length : Int) := by omega
        by_cases he : p[k] = q[k]
        · have hbb : (uB p[k] != uB q[k]) = false := by rw [he]; simp
          have HE := Lib.hid he
          clear he
          go_wp2
          go_quiet (fail)
          go_wp2
          go_roundw
          case rel => exact ⟨k + 1, by omega, by go_num, ⟨_, rfl⟩, Lib.hid (by rw [List.take_succ_eq_append_getElem hlt, List.take_succ_eq_append_getElem hlt2, HT.out, HE.out])⟩
          case measure => simp [intOf]; omega
        · have hbb : (uB p[k] != uB q[k]) = true := by
            rw [bne_iff_ne]; unfold uB; intro e; exact he (UInt8.toNat_inj.1 (by omega))
          have hf : (p == q) = false := by
            rw [beq_eq_false_iff_ne]; intro e; subst e; exact he rfl
          have HF := Lib.hid hf
          clear he hf
          go_wp2
          go_quiet (fail)
          go_wp2
          go_ret
          exact ⟨ret_bool HF.out.symm, ⟨_, World.drewN_drewN ..⟩⟩
      · have ht : (p == q) = true := by
          rw [beq_iff_eq]
          have h1 := HT.out
          have h2 := HN.out
          rw [List.take_of_length_le (by omega), List.take_of_length_le (by omega)] at h1
          exact h1
        have HF := Lib.hid ht
        clear ht
        go_wp2
        go_ret
        exact ⟨ret_bool HF.out.symm, HD⟩
  · have hb : ((p.length : Int) != (q.length : Int)) = true := by rw [bne_iff_ne]; omega
    have hne : (p == q) = false := by
      rw [beq_eq_false_iff_ne]
      intro e; exact hn (by rw [e])
    have HNE := Lib.hid hne
    clear hne
    go_enter Try.func9, Try.ntmps9
    go_wp2
    go_ret
    exact ⟨ret_bool HNE.out.symm, Drawn.refl _⟩


/-! ### The same, with lengths spelled as a caller has them -/
theorem twinR (A : Option Addr) (p : List UInt8) (n cap : Nat) (w : World) (hp : RB w A cap p) (hn : n = p.length) (hl : p.length ≤ 140737488355328) :
    Calls Try.prog 12 #[.slice A n cap] w fun e w' => ∃ A' c', e = .returned (.slice A' n c') ∧ NewB w w' (.slice A' n c') p := by
  subst hn; exact twin_calls A p cap w hp hl
theorem sameR (A B : Option Addr) (p q : List UInt8) (n m c d : Nat) (w : World) (hp : RB w A c p) (hq : RB w B d q) (hn : n = p.length) (hm : m = q.length) (b : Bool) (hb : (p == q) = b) :
    Calls Try.prog 9 #[.slice A n c, .slice B m d] w fun e w' => e = .returned (.bool b) ∧ Drawn w w' := by
  subst hn; subst hm; subst hb; exact same_calls A B p q c d w hp hq
theorem joinN (A B : Option Addr) (p q r : List UInt8) (n m k c d : Nat) (w : World) (hp : RB w A c p) (hq : RB w B d q) (hn : n = p.length) (hm : m = q.length) (hk : k = p.length + q.length) (hr : p ++ q = r) (hl : p.length + q.length ≤ 281474976710656) :
    Calls Try.prog 43 #[.slice A n c, .slice B m d] w fun e w' => ∃ A' c', e = .returned (.slice A' k c') ∧ NewB w w' (.slice A' k c') r := by
  subst hn; subst hm; subst hr; subst hk
  have := join_bytes_calls A B p q c d w hp hq hl
  simp only [List.length_append] at this
  exact this
theorem RB.pre {w : World} {A : Option Addr} {c : Nat} {p r : List UInt8} (h : RB w A c (p ++ r)) : RB w A c p := by
  have := h.take p.length
  rwa [List.take_left] at this
end Go.Proofs.Ytlcbjjgmkllceaa

/- Plain facts on numbers laid as bytes. No program stands here. -/
namespace Go.Proofs.Ytlcbjjgmkllceaa.WireMath

/-- the lowest byte of v shifted right by 8 i bits -/
def byteAt (v i : Nat) : UInt8 := UInt8.ofNat (v / 2 ^ (8 * i))
/-- the lowest n bytes of v, the highest of them first -/
def wideL (v : Nat) : Nat → List UInt8
  | 0 => []
  | n + 1 => byteAt v n :: wideL v n
theorem wideL_length (v : Nat) : ∀ n, (wideL v n).length = n
  | 0 => rfl
  | n + 1 => by simp [wideL, wideL_length v n]

/-- a group that others follow; the last group -/
def grp (x : Nat) : UInt8 := UInt8.ofNat (x % 128 + 128)
/-- the last group -/
def lst (x : Nat) : UInt8 := UInt8.ofNat x
/-- groups of seven bits, the lowest first -/
def uvarF : Nat → Nat → List UInt8
  | 0, v => [lst v]
  | f + 1, v => if v < 128 then [lst v] else grp v :: uvarF f (v / 128)
def uvarL (v : Nat) : List UInt8 := uvarF 9 v
theorem uvarF_pos (f v : Nat) : 0 < (uvarF f v).length := by
  cases f <;> simp only [uvarF]
  · simp
  · split <;> simp
theorem uvarF_length (f v : Nat) : (uvarF f v).length ≤ f + 1 := by
  induction f generalizing v with
  | zero => simp [uvarF]
  | succ f ih =>
    simp only [uvarF]
    split
    · simp
    · have := ih (v / 128)
      simp; omega
theorem uvarL_length (v : Nat) : (uvarL v).length ≤ 10 := uvarF_length 9 v
/-- the number of bytes, the highest first -/
def beN (l : List UInt8) : Nat := l.foldl (fun v c => v * 256 + c.toNat) 0
theorem beN_snoc (l : List UInt8) (c : UInt8) : beN (l ++ [c]) = beN l * 256 + c.toNat := by simp [beN, List.foldl_append]
theorem beN_lt (l : List UInt8) : ∀ n, l.length ≤ n → beN l < 256 ^ n := by
  have h : ∀ (k : Nat) (l : List UInt8), l.length = k → beN l < 256 ^ k := by
    intro k
    induction k with
    | zero => intro l hl; have : l = [] := List.eq_nil_of_length_eq_zero hl; subst this; decide
    | succ k ih =>
      intro l hl
      have hne : l ≠ [] := by intro e; subst e; simp at hl
      rw [← List.dropLast_concat_getLast hne, beN_snoc]
      have h1 := ih l.dropLast (by simp; omega)
      have h2 := (l.getLast hne).toNat_lt
      rw [Nat.pow_succ]
      omega
  intro n hn
  exact Nat.lt_of_lt_of_le (h _ l rfl) (Nat.pow_le_pow_right (by decide) hn)
/-- a number of n bytes taken off: the number, the place behind it, the fault -/
def numS (P : List UInt8) (at_ e n : Nat) : Nat × Nat × Nat :=
  if e ≠ 0 then (0, at_, e) else if P.length - at_ < n then (0, at_, 3) else (beN ((P.drop at_).take n), at_ + n, 0)
/-- the groups from the i-th on: the number and the count of bytes; 0 bytes if there is none -/
def grpTo : Nat → Nat → List UInt8 → Nat × Nat
  | _, _, [] => (0, 0)
  | i, v, c :: l => if (i = 9 ∧ c ≠ 1) ∨ (0 < i ∧ c = 0) then (0, 0) else if c.toNat < 128 then (v + c.toNat % 128 * 128 ^ i, i + 1) else grpTo (i + 1) (v + c.toNat % 128 * 128 ^ i) l
def grpL (l : List UInt8) : Nat × Nat := grpTo 0 0 l
theorem grpTo_le (l : List UInt8) : ∀ i v, (grpTo i v l).2 ≤ i + l.length := by
  induction l with
  | nil => intro i v; simp [grpTo]
  | cons c l ih =>
    intro i v
    unfold grpTo
    split
    · simp
    · split
      · simp
      · have := ih (i + 1) (v + c.toNat % 128 * 128 ^ i); simp; omega
theorem grpL_le (l : List UInt8) : (grpL l).2 ≤ l.length := by have := grpTo_le l 0 0; unfold grpL; omega
theorem grpTo_zero (l : List UInt8) : ∀ i v, (grpTo i v l).2 = 0 → (grpTo i v l).1 = 0 := by
  induction l with
  | nil => intro i v _; simp [grpTo]
  | cons c l ih =>
    intro i v
    unfold grpTo
    split
    · simp
    · split
      · simp
      · exact ih _ _
theorem grpTo_lt (l : List UInt8) : ∀ i v, i ≤ 9 → v < 128 ^ i → (grpTo i v l).1 < 2 ^ 64 := by
  induction l with
  | nil => intro i v _ _; simp [grpTo]
  | cons c l ih =>
    intro i v hi hv
    have hn : v + c.toNat % 128 * 128 ^ i < 128 ^ (i + 1) := by
      have h2 : (c.toNat % 128 + 1) * 128 ^ i ≤ 128 * 128 ^ i := Nat.mul_le_mul_right _ (by omega)
      rw [Nat.add_mul, Nat.one_mul] at h2
      rw [Nat.pow_succ]
      omega
    unfold grpTo
    split
    · simp
    · rename_i h
      by_cases h9 : i = 9
      · have hc : c = 1 := by
          by_cases hc : c = 1
          · exact hc
          · exact absurd (Or.inl ⟨h9, hc⟩) h
        subst hc
        subst h9
        rw [if_pos (by decide)]
        show v + 1 * 128 ^ 9 < 2 ^ 64
        have : (128 : Nat) ^ 9 + 1 * 128 ^ 9 ≤ 2 ^ 64 := by decide
        exact Nat.lt_of_lt_of_le (Nat.add_lt_add_right hv _) this
      · have h8 : (128 : Nat) ^ (i + 1) ≤ 128 ^ 9 := Nat.pow_le_pow_right (by decide) (by omega)
        split
        · exact Nat.lt_of_lt_of_le hn (Nat.le_trans h8 (by decide))
        · exact ih (i + 1) _ (by omega) hn
theorem grpL_lt (l : List UInt8) : (grpL l).1 < 2 ^ 64 := grpTo_lt l 0 0 (by decide) (by decide)
def uvarS (P : List UInt8) (at_ e : Nat) : Nat × Nat × Nat :=
  if e ≠ 0 then (0, at_, e) else ((grpL (P.drop at_)).1, at_ + (grpL (P.drop at_)).2, if (grpL (P.drop at_)).2 = 0 then 3 else 0)
def rawS (P : List UInt8) (at_ e : Nat) (n : Int) : List UInt8 × Nat × Nat :=
  if e ≠ 0 then ([], at_, e) else if n < 0 then ([], at_, 1) else if (P.length - at_ : Nat) < n then ([], at_, 3) else ((P.drop at_).take n.toNat, at_ + n.toNat, 0)
def blobS (P : List UInt8) (at_ e : Nat) (most : Int) : List UInt8 × Nat × Nat :=
  if e ≠ 0 then ([], at_, e) else if most < 0 then ([], at_, 1) else
  if (grpL (P.drop at_)).2 = 0 then ([], at_, 3) else if most < (grpL (P.drop at_)).1 then ([], at_, 2) else
  if P.length - at_ - (grpL (P.drop at_)).2 < (grpL (P.drop at_)).1 then ([], at_, 3) else
  ((P.drop (at_ + (grpL (P.drop at_)).2)).take (grpL (P.drop at_)).1, at_ + (grpL (P.drop at_)).2 + (grpL (P.drop at_)).1, 0)
end Go.Proofs.Ytlcbjjgmkllceaa.WireMath

/- Words on writers: what stands behind a pointer to one, what a call changes. -/
namespace Go.Proofs.Ytlcbjjgmkllceaa
open Go.RowKit

/-- a writer at the head of block b: its bytes p stand in a row of their own -/
structure Wr (w : World) (base b : Nat) (row : Option Nat) (p : List UInt8) : Prop where
  cell : ∃ v, w.cell? ⟨b, 0, none⟩ = some v ∧ v.ownBlock = row ∧ OB w base 5 v p
  fz : w.frozen? ⟨b, 0, none⟩ = false
  ne : row ≠ some b
  lo : base ≤ b
/-- what a writer's call changes: its block, its row, new memory -/
structure WStep (w w' : World) (b : Nat) (row row' : Option Nat) : Prop where
  os : w'.os = w.os
  tape : w'.tape = w.tape
  output : w'.output = w.output
  size : w.heap.size ≤ w'.heap.size
  block : ∀ k, k < w.heap.size → k ≠ b → some k ≠ row → w'.heap[k]? = w.heap[k]?
  row' : row' = row ∨ ∃ k, row' = some k ∧ w.heap.size ≤ k
theorem WStep.refl (w : World) (b : Nat) (row : Option Nat) : WStep w w b row row := ⟨rfl, rfl, rfl, Nat.le_refl _, fun _ _ _ _ => rfl, .inl rfl⟩
theorem WStep.trans {w w1 w2 : World} {b : Nat} {r r1 r2 : Option Nat} (h : WStep w w1 b r r1) (k : WStep w1 w2 b r1 r2) : WStep w w2 b r r2 := by
  refine ⟨k.os.trans h.os, k.tape.trans h.tape, k.output.trans h.output, Nat.le_trans h.size k.size, fun j h1 h2 h3 => ?_, ?_⟩
  · rw [k.block j (Nat.lt_of_lt_of_le h1 h.size) h2 ?_, h.block j h1 h2 h3]
    rcases h.row' with e | ⟨i, e, hi⟩
    · rw [e]; exact h3
    · rw [e]; intro e2; have := Option.some.inj e2; omega
  · rcases k.row' with e | ⟨i, e, hi⟩
    · rw [e]; exact h.row'
    · exact .inr ⟨i, e, Nat.le_trans h.size hi⟩
theorem WStep.new {w w1 w2 : World} {b : Nat} {r r1 : Option Nat} (h : WStep w w1 b r r1) (k : Below w1.heap.size w1 w2) : WStep w w2 b r r1 :=
  ⟨k.os.trans h.os, k.tape.trans h.tape, k.output.trans h.output, Nat.le_trans h.size k.size, fun j h1 h2 h3 => (k.block j (Nat.lt_of_lt_of_le h1 h.size)).trans (h.block j h1 h2 h3), h.row'⟩
theorem WStep.ahead {w w1 w2 : World} {b : Nat} {r r1 : Option Nat} (k : Below w.heap.size w w1) (h : WStep w1 w2 b r r1) : WStep w w2 b r r1 :=
  ⟨h.os.trans k.os, h.tape.trans k.tape, h.output.trans k.output, Nat.le_trans k.size h.size, fun j h1 h2 h3 => (h.block j (Nat.lt_of_lt_of_le h1 k.size) h2 h3).trans (k.block j h1), h.row'.imp id fun ⟨i, e, hi⟩ => ⟨i, e, Nat.le_trans k.size hi⟩⟩
theorem Wr.rowLo {w : World} {base b : Nat} {row : Option Nat} {p : List UInt8} (h : Wr w base b row p) : ∀ k, row = some k → base ≤ k ∧ k < w.heap.size := by
  obtain ⟨v, h1, h2, h3⟩ := h.cell
  intro k hk
  exact h3.at_base k (h2.trans hk)
theorem Wr.bLt {w : World} {base b : Nat} {row : Option Nat} {p : List UInt8} (h : Wr w base b row p) : b < w.heap.size := by
  obtain ⟨v, h1, _⟩ := h.cell
  exact World.block_lt_of_cell? w _ h1
theorem WStep.below {w w' : World} {base b : Nat} {r r' : Option Nat} {p : List UInt8} (h : WStep w w' b r r') (hw : Wr w base b r p) : Below base w w' :=
  ⟨h.os, h.tape, h.output, h.size, fun k hk => by
    have hb := hw.lo
    have hbl := hw.bLt
    exact h.block k (by omega) (by omega) (fun e => by have := hw.rowLo k e.symm; omega)⟩
/-- another writer stands as it did -/
theorem Wr.other {w w' : World} {base b b2 : Nat} {r r' row : Option Nat} {q : List UInt8} (h : Wr w base b2 row q) (hs : WStep w w' b r r') (h1 : b2 ≠ b) (h2 : r ≠ some b2) (h3 : row ≠ some b) (h4 : row = none ∨ row ≠ r) : Wr w' base b2 row q := by
  obtain ⟨v, c1, c2, c3⟩ := h.cell
  have hb : w'.heap[b2]? = w.heap[b2]? := hs.block b2 h.bLt h1 (fun e => h2 e.symm)
  refine ⟨⟨v, (World.cell?_of_block (a := ⟨b2, 0, none⟩) hb).trans c1, c2, ⟨c3.out.1, ?_⟩⟩, (World.frozen?_of_block (a := ⟨b2, 0, none⟩) hb).trans h.fz, h.ne, h.lo⟩
  rcases c3.out.2 with h5 | ⟨g, cap, cur, rfl, hg, hh, r5⟩
  · exact .inl h5
  · have e : row = some g := c2.symm
    refine .inr ⟨g, cap, cur, rfl, hg, ?_, r5⟩
    rw [hs.block g (Array.getElem?_eq_some_iff.1 hh).1 (fun e2 => h3 (by rw [e, e2])) (fun e2 => by
      rcases h4 with h4 | h4
      · rw [e] at h4; exact absurd h4 (by simp)
      · exact h4 (e.trans e2))]
    exact hh
theorem Wr.new {w w' : World} {base b : Nat} {row : Option Nat} {p : List UInt8} (h : Wr w base b row p) (hb : Below w.heap.size w w') : Wr w' base b row p := by
  obtain ⟨v, c1, c2, c3⟩ := h.cell
  exact ⟨⟨v, (hb.cell (p := ⟨b, 0, none⟩) h.bLt).trans c1, c2, c3.new hb⟩, (hb.frozen (p := ⟨b, 0, none⟩) h.bLt).trans h.fz, h.ne, h.lo⟩
/-- a writer's value as a slice -/
theorem Wr.open_ {w : World} {base b : Nat} {row : Option Nat} {p : List UInt8} (h : Wr w base b row p) : ∃ A c, w.cell? ⟨b, 0, none⟩ = some (.slice A p.length c) ∧ (Value.slice A p.length c).ownBlock = row ∧ OB w base 5 (.slice A p.length c) p ∧ RB w A c p := by
  obtain ⟨v, c1, c2, c3⟩ := h.cell
  obtain ⟨A, c, rfl, hr⟩ := c3.form
  exact ⟨A, c, c1, c2, c3, hr⟩
/-- a new writer -/
theorem Wr.fresh (w : World) (base : Nat) (hb : base ≤ w.heap.size) (t : TypeId) : Wr (w.alloc (.cells #[.slice none 0 0] t)) base w.heap.size none [] := by
  have hh := heap_alloc_new w (.cells #[.slice none 0 0] t)
  exact ⟨⟨_, cell_of_row _ _ _ _ _ _ hh, rfl, OB.nil _ _ _⟩, frozen_of_row _ _ _ _ _ hh, by simp, hb⟩
/-- its bytes are stored anew -/
theorem Wr.put {w0 w : World} {base b : Nat} {row row' : Option Nat} {p q : List UInt8} {v : Value} (h : Wr w0 base b row p) (hs : WStep w0 w b row row) (hr : row' = v.ownBlock) (hrow : row' = row ∨ ∃ k, row' = some k ∧ w0.heap.size ≤ k) (hb : w.heap[b]? = w0.heap[b]?) (ho : OB w base 5 v q) :
    Wr (w.setCell ⟨b, 0, none⟩ v) base b row' q ∧ WStep w0 (w.setCell ⟨b, 0, none⟩ v) b row row' := by
  have hne : row' ≠ some b := by
    rcases hrow with e | ⟨k, e, hk⟩
    · rw [e]; exact h.ne
    · have := h.bLt
      rw [e]; intro e2; have := Option.some.inj e2; omega
  obtain ⟨v0, c1, _, _⟩ := h.cell
  have hbl : b < w.heap.size := Nat.lt_of_lt_of_le h.bLt hs.size
  have hc0 : w.cell? ⟨b, 0, none⟩ = some v0 := (World.cell?_of_block (a := ⟨b, 0, none⟩) hb).trans c1
  have hg : w.grownBy (w.setCell ⟨b, 0, none⟩ v) (some b) := ⟨rfl, rfl, rfl, by simp [World.setCell], fun k _ hk => heap_setCell_other _ _ _ _ (fun e => hk (by rw [e]))⟩
  have hf0 : w.frozen? ⟨b, 0, none⟩ = false := (World.frozen?_of_block (a := ⟨b, 0, none⟩) hb).trans h.fz
  refine ⟨⟨⟨v, ?_, hr.symm, ho.keep hg (.inr (by rw [← hr]; exact hne))⟩, ?_, hne, h.lo⟩, ?_⟩
  · exact World.cell?_setCell_same _ _ _ hc0
  · rw [World.frozen?_setCell]; exact hf0
  · exact ⟨hs.os, hs.tape, hs.output, by simpa [World.setCell] using hs.size, fun k h1 h2 h3 => (heap_setCell_other _ _ _ _ h2).trans (hs.block k h1 h2 h3), hrow⟩

/-- append(v, x...), and where its row lies -/
theorem wp_appendB_at {P : Program} {t e : TypeId} {w : World} {ops : Array Oper} {rest : List Oper} {o : Oper} {a : Act} {Q : Exit → Act → World → Prop} (bt : ByteT P t e) (hg : o.guard = none) (s x : Operand) (hop : o.op = .call { callee := .builtin .append, args := #[s, x], argTypes := #[t, t] })
    (base : Nat) (v : Value) (p : List UInt8) (hs : a.eval s = v) (ho : OB w base e v p) (A : Option Addr) (q : List UInt8) (n c : Nat) (hx : a.eval x = .slice A n c) (hn : n = q.length) (hq : RB w A c q)
    (hlen : p.length + q.length ≤ 140737488355328) (hbase : base ≤ w.heap.size) (r : List UInt8) (hr : p ++ q = r)
    (h : ∀ A' c' w', OB w' base e (.slice A' r.length c') r → w.grownBy w' v.ownBlock → ((Value.slice A' r.length c').ownBlock = v.ownBlock ∨ (Value.slice A' r.length c').ownBlock = some w.heap.size) → wpList P ops Q rest (a.put o.dst (.slice A' r.length c')) w') : wpList P ops Q (o :: rest) a w := by
  subst hn
  subst hr
  obtain ⟨i, hi, hz, hsz, hb⟩ := info_parts bt.info
  cases A with
  | none =>
    obtain ⟨rfl, rfl⟩ := hq.nil rfl
    refine wpList_append_own_none hg s x t hop base e i 1 bt.sl hi v p.length (encB p) hs ho.out hx ?_
    obtain ⟨A', c', rfl, _⟩ := ho.form
    have h' := h A' c' w (by simpa using ho) ⟨rfl, rfl, rfl, Nat.le_refl _, fun _ _ _ => rfl⟩ (.inl (by simp))
    simpa using h'
  | some ad =>
    refine Go.wpList_append_own_at (w := w) hg s x t hop base e i (.int .u8 0) 1 1 bt.sl hi hz hsz hb rfl (by decide) v p.length (encB p) hs ho.out ad q.length c (encB q) hx (by rw [encB_length, Nat.mul_one]) hq.cells (encB_one q) (by unfold maxLen; omega) (by omega) hbase fun v' w' h1 h2 h3 h4 => ?_
    have h5 : OB w' base e v' (p ++ q) := ⟨by simpa [encB_append] using h1⟩
    obtain ⟨A', c', rfl, _⟩ := h5.form
    exact h A' c' w' h5 h2 h4
end Go.Proofs.Ytlcbjjgmkllceaa

/- The walks of the writer's methods: each call lays what WireMath says behind all that stands. -/
namespace Go.Proofs.Ytlcbjjgmkllceaa
open Go.RowKit

theorem OB.empty (w : World) (base e : Nat) (hb : base ≤ w.heap.size) : OB (w.alloc (.cells #[] e)) base e (.slice (some ⟨w.heap.size, 0, none⟩) 0 0) [] :=
  ⟨by simp [encB], .inr ⟨w.heap.size, 0, #[], rfl, hb, heap_alloc_new w _, Nat.le_refl _, by unfold maxLen; omega, rfl, by simp [encB]⟩⟩

theorem eql_nil (w : World) (a : Option Addr) (l c : Nat) : (binOp .eql 23 (.slice a l c) (.slice none 0 0)).run Try.prog w = .ok (.bool a.isNone) w := Lib.run_eql_slice_nil w 23 5 a l c 0 0 Try.underlying23

theorem clone_calls (A : Option Addr) (p : List UInt8) (cap n : Nat) (w : World) (hp : RB w A cap p) (hn : n = p.length) (hl : p.length ≤ 140737488355328) :
    Calls Try.prog 59 #[.slice A n cap] w fun e w' => ∃ A' c', e = .returned (.slice A' n c') ∧ NewB w w' (.slice A' n c') p := by
  subst hn
  have hnil := eql_nil
  cases A with
  | none =>
    obtain ⟨rfl, rfl⟩ := hp.nil rfl
    go_enter Try.func59, Try.ntmps59
    go_wp2
    go_ret
    exact ⟨_, _, rfl, OB.nil _ _ _, Below.refl _ _⟩
  | some a =>
    go_enter Try.func59, Try.ntmps59
    go_wp2_with (refine wp_appendB_at bt rfl (.tmp 5) (.tmp 6) rfl w.heap.size (.slice (some ⟨w.heap.size, 0, Option.none⟩) 0 0) [] rfl (OB.empty w w.heap.size 5 (Nat.le_refl _)) (some a) p p.length cap rfl rfl (hp.new ((Below.refl _ _).alloc (Nat.le_refl _) _)) (by simpa using hl) (by simp) p rfl fun A3 c3 w2 ho2 hg2 _ => ?_)
    go_ret
    exact ⟨_, _, rfl, ho2, ((Below.refl _ _).alloc (Nat.le_refl _) _).grown hg2 (by simp) (fun k e => by have e2 : some w.heap.size = some k := e; have := Option.some.inj e2; omega)⟩

theorem add_calls (base b : Nat) (row : Option Nat) (p : List UInt8) (A : Option Addr) (q : List UInt8) (n c : Nat) (w : World) (hw : Wr w base b row p) (hq : RB w A c q) (hn : n = q.length) (hl : p.length + q.length ≤ 140737488355328) :
    Calls Try.prog 57 #[.pointer (some ⟨b, 0, none⟩), .slice A n c] w fun e w' => ∃ row', e = .returned (.tuple #[]) ∧ Wr w' base b row' (p ++ q) ∧ WStep w w' b row row' := by
  obtain ⟨A0, c0, hc, hr, ho, hrb⟩ := hw.open_
  have hlo := hw.lo
  have hbl := hw.bLt
  have hf := hw.fz
  go_enter Try.func57, Try.ntmps57
  go_wp2_with (refine wp_appendB_at bt rfl (.tmp 10) (.tmp 11) rfl base (.slice A0 p.length c0) p rfl ho A q n c rfl hn hq hl (by omega) (p ++ q) rfl fun A3 c3 w2 ho2 hg2 hr2 => ?_; have hb2 := hg2.block b hbl (by rw [hr]; intro e; exact hw.ne e.symm); have hc2 := (World.cell?_of_block (a := ⟨b, 0, Option.none⟩) hb2).trans hc; have hf2 := (World.frozen?_of_block (a := ⟨b, 0, Option.none⟩) hb2).trans hf)
  have hrow : (Value.slice A3 (p ++ q).length c3).ownBlock = row ∨ ∃ k, (Value.slice A3 (p ++ q).length c3).ownBlock = some k ∧ w.heap.size ≤ k := by
    rcases hr2 with e | e
    · exact .inl (e.trans hr)
    · exact .inr ⟨_, e, Nat.le_refl _⟩
  rw [hr] at hg2
  obtain ⟨h1, h2⟩ := hw.put (row' := (Value.slice A3 (p ++ q).length c3).ownBlock) ⟨hg2.os, hg2.tape, hg2.output, hg2.size, fun k k1 _ k3 => hg2.block k k1 k3, .inl rfl⟩ rfl hrow hb2 ho2
  rw [List.length_append] at h1 h2
  go_end0
  exact ⟨_, rfl, h1, h2⟩

open WireMath (byteAt wideL uvarF uvarL grp lst)
theorem byteAt_eq (v i : Nat) : (v : Int) / 2 ^ (8 * i) % 256 = uB (byteAt v i) := by
  unfold byteAt
  rw [uB_ofNat]; simp
theorem one_byte (w : World) (b : UInt8) : RB (w.alloc (.cells #[.int .u8 (uB b)] 5)) (some ⟨w.heap.size, 0, none⟩) 1 [b] := RB.one w _ b

theorem wide_calls (base b : Nat) (row : Option Nat) (p : List UInt8) (v n : Nat) (N : Int) (w : World) (hw : Wr w base b row p) (_hv : v ≤ 18446744073709551615) (hn : n ≤ 8) (hN : N = n) (hl : p.length + 8 ≤ 140737488355328) :
    Calls Try.prog 58 #[.pointer (some ⟨b, 0, none⟩), .int .u64 v, .int .i64 N] w fun e w' => ∃ row', e = .returned (.tuple #[]) ∧ Wr w' base b row' (p ++ wideL v n) ∧ WStep w w' b row row' := by
  subst hN
  go_enter Try.func58, Try.ntmps58
  go_wp2
  go_loopw [6] (fun i wr => ∃ (j : Nat) (pre : List UInt8) (r : Option Nat), j ≤ n ∧ i = .int .i64 ((j : Int) - 1) ∧ Hid (pre ++ wideL v j = wideL v n) ∧ Wr wr base b r (p ++ pre) ∧ WStep w wr b row r) (fun i _ => (intOf i + 1).toNat)
  case atStart => exact ⟨n, [], row, Nat.le_refl _, rfl, Lib.hid rfl, by simpa using hw, WStep.refl _ _ _⟩
  case round =>
    obtain ⟨j, pre, r, hj, rfl, HP, HW, HS⟩ := hrel
    cases j with
    | zero =>
      go_wp2
      go_end0
      have := HP.out
      simp only [wideL, List.append_nil] at this
      exact ⟨r, rfl, by rw [← this]; exact HW, HS⟩
    | succ i =>
      have hb := byteAt_eq v i
      have ht : (8 * (i : Int)).toNat = 8 * i := by omega
      have hll : (p ++ pre).length + [byteAt v i].length ≤ 140737488355328 := by
        have h1 := congrArg List.length HP.out
        simp only [List.length_append, WireMath.wideL_length, List.length_cons, List.length_nil] at h1 ⊢
        omega
      have HLL := Lib.hid hll
      clear hll
      go_wp2_with (go_at_call 57; (with_reducible refine (add_calls base b r (p ++ pre) _ [byteAt v i] _ _ _ (HW.new ((Below.refl _ _).alloc (Nat.le_refl _) _)) (one_byte wr _) (by simp) HLL.out).mono ?_); rintro e w2 ⟨r2, rfl, hw2, hs2⟩)
      go_roundw
      case rel => exact ⟨i, pre ++ [byteAt v i], r2, by omega, (by first | rfl | go_num), Lib.hid (by rw [← HP.out]; simp [wideL]), by rw [← List.append_assoc]; exact hw2, HS.trans (WStep.ahead ((Below.refl _ _).alloc (Nat.le_refl _) _) hs2)⟩
      case measure => simp [intOf] <;> omega

theorem u8_calls (base b : Nat) (row : Option Nat) (p : List UInt8) (v : Nat) (w : World) (hw : Wr w base b row p) (hv : v ≤ 255) (hl : p.length + 8 ≤ 140737488355328) :
    Calls Try.prog 67 #[.pointer (some ⟨b, 0, none⟩), .int .u8 v] w fun e w' => ∃ row', e = .returned (.tuple #[]) ∧ Wr w' base b row' (p ++ [UInt8.ofNat v]) ∧ WStep w w' b row row' := by
  have hx : (v : Int) = uB (UInt8.ofNat v) := by rw [uB_ofNat]; omega
  have HX := Lib.hid hx
  clear hx
  go_enter Try.func67, Try.ntmps67
  go_wp2_with (go_at_call 57; rw [HX.out]; (with_reducible refine (add_calls base b row p _ [UInt8.ofNat v] _ _ _ (hw.new ((Below.refl _ _).alloc (Nat.le_refl _) _)) (one_byte w _) (by simp) (by simp; omega)).mono ?_); rintro e w2 ⟨r2, rfl, hw2, hs2⟩)
  go_end0
  exact ⟨r2, rfl, hw2, WStep.ahead ((Below.refl _ _).alloc (Nat.le_refl _) _) hs2⟩

theorem u16_calls (base b : Nat) (row : Option Nat) (p : List UInt8) (v : Nat) (w : World) (hw : Wr w base b row p) (hv : v ≤ 65535) (hl : p.length + 8 ≤ 140737488355328) :
    Calls Try.prog 32 #[.pointer (some ⟨b, 0, none⟩), .int .u16 v] w fun e w' => ∃ row', e = .returned (.tuple #[]) ∧ Wr w' base b row' (p ++ wideL v 2) ∧ WStep w w' b row row' := by
  have HN := Lib.hid (show (2 : Int) = ((2 : Nat) : Int) from rfl)
  go_enter Try.func32, Try.ntmps32
  go_wp2_with (go_at_call 58; (with_reducible refine (wide_calls base b row p v 2 _ _ hw (by omega) (by omega) HN.out hl).mono ?_); rintro e w2 ⟨r2, rfl, hw2, hs2⟩)
  go_end0
  exact ⟨r2, rfl, hw2, hs2⟩

theorem u32_calls (base b : Nat) (row : Option Nat) (p : List UInt8) (v : Nat) (w : World) (hw : Wr w base b row p) (hv : v ≤ 4294967295) (hl : p.length + 8 ≤ 140737488355328) :
    Calls Try.prog 68 #[.pointer (some ⟨b, 0, none⟩), .int .u32 v] w fun e w' => ∃ row', e = .returned (.tuple #[]) ∧ Wr w' base b row' (p ++ wideL v 4) ∧ WStep w w' b row row' := by
  have HN := Lib.hid (show (4 : Int) = ((4 : Nat) : Int) from rfl)
  go_enter Try.func68, Try.ntmps68
  go_wp2_with (go_at_call 58; (with_reducible refine (wide_calls base b row p v 4 _ _ hw (by omega) (by omega) HN.out hl).mono ?_); rintro e w2 ⟨r2, rfl, hw2, hs2⟩)
  go_end0
  exact ⟨r2, rfl, hw2, hs2⟩

theorem u64_calls (base b : Nat) (row : Option Nat) (p : List UInt8) (v : Nat) (w : World) (hw : Wr w base b row p) (hv : v ≤ 18446744073709551615) (hl : p.length + 8 ≤ 140737488355328) :
    Calls Try.prog 69 #[.pointer (some ⟨b, 0, none⟩), .int .u64 v] w fun e w' => ∃ row', e = .returned (.tuple #[]) ∧ Wr w' base b row' (p ++ wideL v 8) ∧ WStep w w' b row row' := by
  have HN := Lib.hid (show (8 : Int) = ((8 : Nat) : Int) from rfl)
  go_enter Try.func69, Try.ntmps69
  go_wp2_with (go_at_call 58; (with_reducible refine (wide_calls base b row p v 8 _ _ hw (by omega) (by omega) HN.out hl).mono ?_); rintro e w2 ⟨r2, rfl, hw2, hs2⟩)
  go_end0
  exact ⟨r2, rfl, hw2, hs2⟩

theorem raw_calls (base b : Nat) (row : Option Nat) (p : List UInt8) (A : Option Addr) (q : List UInt8) (n c : Nat) (w : World) (hw : Wr w base b row p) (hq : RB w A c q) (hn : n = q.length) (hl : p.length + q.length ≤ 140737488355328) :
    Calls Try.prog 70 #[.pointer (some ⟨b, 0, none⟩), .slice A n c] w fun e w' => ∃ row', e = .returned (.tuple #[]) ∧ Wr w' base b row' (p ++ q) ∧ WStep w w' b row row' := by
  subst hn
  go_enter Try.func70, Try.ntmps70
  go_wp2_with (go_at_call 57; (with_reducible refine (add_calls base b row p A q _ c _ hw hq rfl hl).mono ?_); rintro e w2 ⟨r2, rfl, hw2, hs2⟩)
  go_end0
  exact ⟨r2, rfl, hw2, hs2⟩

theorem bytes_calls (base b : Nat) (row : Option Nat) (p : List UInt8) (w : World) (hw : Wr w base b row p) (hl : p.length ≤ 140737488355328) :
    Calls Try.prog 33 #[.pointer (some ⟨b, 0, none⟩)] w fun e w' => ∃ A' c', e = .returned (.slice A' p.length c') ∧ NewB w w' (.slice A' p.length c') p := by
  obtain ⟨A0, c0, hc, hr, ho, hrb⟩ := hw.open_
  have hf := hw.fz
  go_enter Try.func33, Try.ntmps33
  go_wp2_with (go_at_call 59; (with_reducible refine (clone_calls A0 p c0 _ _ hrb rfl hl).mono ?_); rintro e w2 ⟨A', c', rfl, hn⟩)
  go_ret
  exact ⟨_, _, rfl, hn⟩

theorem len_calls (base b : Nat) (row : Option Nat) (p : List UInt8) (w : World) (hw : Wr w base b row p) :
    Calls Try.prog 34 #[.pointer (some ⟨b, 0, none⟩)] w fun e w' => e = .returned (.int .i64 p.length) ∧ w = w' := by
  obtain ⟨A0, c0, hc, hr, ho, hrb⟩ := hw.open_
  have hf := hw.fz
  go_enter Try.func34, Try.ntmps34
  go_wp2
  go_ret
  exact ⟨rfl, rfl⟩

theorem or_128 : ∀ y, y < 256 → y ||| 128 = y % 128 + 128 := by decide +kernel
theorem bits_or_128 (x : Nat) : bits .or .u8 ((x : Int) % 256) 128 = uB (grp x) := by
  have h := (bits_nat .u8 8 (by decide) wraps_u8 (x % 256) 128 (by omega) (by decide)).2
  rw [or_128 _ (by omega)] at h
  unfold WireMath.grp
  rw [uB_ofNat]
  have e : ((x % 256 : Nat) : Int) = (x : Int) % 256 := by omega
  rw [e] at h
  rw [show ((128 : Nat) : Int) = 128 from rfl] at h
  rw [h]
  omega
set_option maxRecDepth 100000 in
/-- one group and those behind it -/
theorem uvar_calls (base b : Nat) (row : Option Nat) (p : List UInt8) (v : Nat) (w : World) (hw : Wr w base b row p) (hv : v ≤ 18446744073709551615) (hl : p.length + 10 ≤ 140737488355328) :
    Calls Try.prog 31 #[.pointer (some ⟨b, 0, none⟩), .int .u64 v] w fun e w' => ∃ row', e = .returned (.tuple #[]) ∧ Wr w' base b row' (p ++ uvarL v) ∧ WStep w w' b row row' := by
  go_enter Try.func31, Try.ntmps31
  go_wp2
  go_loopw [1] (fun i wr => ∃ (x f : Nat) (pre : List UInt8) (r : Option Nat), x ≤ v ∧ Hid (x < 128 ^ (f + 1)) ∧ f ≤ 9 ∧ i = .int .u64 x ∧ Hid (pre ++ uvarF f x = uvarL v) ∧ Wr wr base b r (p ++ pre) ∧ WStep w wr b row r) (fun i _ => (intOf i).toNat)
  case atStart => exact ⟨v, 9, [], row, Nat.le_refl _, Lib.hid (by simp; omega), by omega, rfl, Lib.hid rfl, by simpa using hw, WStep.refl _ _ _⟩
  case round =>
    obtain ⟨x, f, pre, r, hx, hxf, hf9, rfl, HP, HW, HS⟩ := hrel
    have hll : (p ++ pre).length + 1 ≤ 140737488355328 := by
      have h1 := congrArg List.length HP.out
      have h2 := WireMath.uvarL_length v
      have h3 := WireMath.uvarF_pos f x
      simp only [List.length_append] at h1 ⊢
      omega
    by_cases hlt : x < 128
    · have hone : uvarF f x = [lst x] := by cases f <;> simp [uvarF, hlt]
      have hb : (x : Int) = uB (lst x) := by unfold WireMath.lst; rw [uB_ofNat]; omega
      have HX := Lib.hid hb
      clear hb
      have hll2 : (p ++ pre).length + [lst x].length ≤ 140737488355328 := by simpa using hll
      have HLL := Lib.hid hll2
      have HO := Lib.hid hone
      clear hll hll2 hone
      go_wp2_with (go_at_call 57; rw [HX.out]; (with_reducible refine (add_calls base b r (p ++ pre) _ [lst x] _ _ _ (HW.new ((Below.refl _ _).alloc (Nat.le_refl _) _)) (one_byte wr _) (by simp) HLL.out).mono ?_); rintro e w2 ⟨r2, rfl, hw2, hs2⟩)
      go_end0
      refine ⟨r2, rfl, ?_, HS.trans (WStep.ahead ((Below.refl _ _).alloc (Nat.le_refl _) _) hs2)⟩
      rw [← HP.out, HO.out, ← List.append_assoc]
      exact hw2
    · cases f with
      | zero => have := hxf.out; simp at this; omega
      | succ f =>
        have hmore : uvarF (f + 1) x = grp x :: uvarF f (x / 128) := by simp [uvarF, hlt]
        have hb := bits_or_128 x
        have hll2 : (p ++ pre).length + [grp x].length ≤ 140737488355328 := by simpa using hll
        have HLL := Lib.hid hll2
        have HO := Lib.hid hmore
        clear hll hll2 hmore
        go_wp2_with (go_at_call 57; (with_reducible refine (add_calls base b r (p ++ pre) _ [grp x] _ _ _ (HW.new ((Below.refl _ _).alloc (Nat.le_refl _) _)) (one_byte wr _) (by simp) HLL.out).mono ?_); rintro e w2 ⟨r2, rfl, hw2, hs2⟩)
        go_roundw
        case rel => exact ⟨x / 128, f, pre ++ [grp x], r2, by omega, Lib.hid (by have := hxf.out; rw [Nat.pow_succ] at this; omega), by omega, (by first | rfl | go_num), Lib.hid (by rw [← HP.out, HO.out]; simp), by rw [← List.append_assoc]; exact hw2, HS.trans (WStep.ahead ((Below.refl _ _).alloc (Nat.le_refl _) _) hs2)⟩
        case measure => simp [intOf] <;> omega

theorem blob_calls (base b : Nat) (row : Option Nat) (p : List UInt8) (A : Option Addr) (q : List UInt8) (n c : Nat) (w : World) (hw : Wr w base b row p) (hq : RB w A c q) (hqo : Old base A q) (hn : n = q.length) (hl : p.length + q.length + 10 ≤ 140737488355328) :
    Calls Try.prog 71 #[.pointer (some ⟨b, 0, none⟩), .slice A n c] w fun e w' => ∃ row', e = .returned (.tuple #[]) ∧ Wr w' base b row' (p ++ (uvarL q.length ++ q)) ∧ WStep w w' b row row' := by
  subst hn
  have hul := WireMath.uvarL_length q.length
  go_enter Try.func71, Try.ntmps71
  go_wp2_with (first | (go_at_call 31; (with_reducible refine (uvar_calls base b row p q.length _ hw (by omega) (by omega)).mono ?_); rintro e w2 ⟨r2, rfl, hw2, hs2⟩; have hq2 := hq.below (hs2.below hw) hqo) | (go_at_call 70; (with_reducible refine (raw_calls base b r2 (p ++ uvarL q.length) A q _ c _ hw2 hq2 rfl (by rw [List.length_append]; omega)).mono ?_); rintro e w3 ⟨r3, rfl, hw3, hs3⟩))
  go_end0
  exact ⟨r3, rfl, by rw [← List.append_assoc]; exact hw3, hs2.trans hs3⟩
end Go.Proofs.Ytlcbjjgmkllceaa

/- Words on readers: what stands behind a pointer to one. -/
namespace Go.Proofs.Ytlcbjjgmkllceaa
open Go.RowKit

/-- a reader at the head of block b, over the bytes P, at the place at_, with the fault e -/
structure Rd (w : World) (base : Nat → Prop) (b : Nat) (P : List UInt8) (at_ e : Nat) : Prop where
  s : ∃ A c, w.cell? ⟨b, 0, none⟩ = some (.slice A P.length c) ∧ RB w A c P ∧ (∀ a, A = some a → 0 < P.length → a.block ≠ b ∧ base a.block)
  place : w.cell? ⟨b, 1, none⟩ = some (.int .i64 at_)
  fault : w.cell? ⟨b, 2, none⟩ = some (.int .i64 e)
  fz : ∀ j, w.frozen? ⟨b, j, none⟩ = false
  lo : base b
  le : at_ ≤ P.length
theorem Rd.bLt {w : World} {base : Nat → Prop} {b : Nat} {P : List UInt8} {at_ e : Nat} (h : Rd w base b P at_ e) : b < w.heap.size := World.block_lt_of_cell? w _ h.place
theorem Rd.keep {w w' : World} {base : Nat → Prop} {b : Nat} {P : List UInt8} {at_ e : Nat} (h : Rd w base b P at_ e) (hb : w'.heap[b]? = w.heap[b]?) (hk : ∀ k, base k → k ≠ b → k < w.heap.size → w'.heap[k]? = w.heap[k]?) : Rd w' base b P at_ e := by
  obtain ⟨A, c, c1, c2, c3⟩ := h.s
  have hc : ∀ j, w'.cell? ⟨b, j, none⟩ = w.cell? ⟨b, j, none⟩ := fun j => World.cell?_of_block (a := ⟨b, j, none⟩) hb
  refine ⟨⟨A, c, (hc 0).trans c1, c2.keep fun a e hp => hk _ (c3 a e hp).2 (c3 a e hp).1 (c2.old.out a e hp), c3⟩, (hc 1).trans h.place, (hc 2).trans h.fault, fun j => (World.frozen?_of_block (a := ⟨b, j, none⟩) hb).trans (h.fz j), h.lo, h.le⟩
theorem Rd.new {w w' : World} {base : Nat → Prop} {b : Nat} {P : List UInt8} {at_ e : Nat} (h : Rd w base b P at_ e) (hb : Below w.heap.size w w') : Rd w' base b P at_ e :=
  h.keep (hb.block b h.bLt) fun k _ _ h3 => hb.block k h3
theorem setCell_grown (w : World) (b j : Nat) (v : Value) : w.grownBy (w.setCell ⟨b, j, none⟩ v) (some b) :=
  ⟨rfl, rfl, rfl, by simp [World.setCell], fun k _ hk => heap_setCell_other _ _ _ _ (fun e => hk (by rw [e]))⟩
theorem grown_trans {a b c : World} {row : Option Nat} (h : a.grownBy b row) (k : b.grownBy c row) : a.grownBy c row :=
  ⟨k.os.trans h.os, k.tape.trans h.tape, k.output.trans h.output, Nat.le_trans h.size k.size, fun j h1 h2 => (k.block j (Nat.lt_of_lt_of_le h1 h.size) h2).trans (h.block j h1 h2)⟩
theorem grown_refl (a : World) (row : Option Nat) : a.grownBy a row := ⟨rfl, rfl, rfl, Nat.le_refl _, fun _ _ _ => rfl⟩
theorem grown_new {a b c : World} {row : Option Nat} (h : a.grownBy b row) (k : Below b.heap.size b c) : a.grownBy c row := grown_trans h (grown_of_below k row)
theorem Rd.setPlace {w : World} {base : Nat → Prop} {b : Nat} {P : List UInt8} {at_ e : Nat} (h : Rd w base b P at_ e) (n : Nat) (hn : n ≤ P.length) : Rd (w.setCell ⟨b, 1, none⟩ (.int .i64 n)) base b P n e := by
  obtain ⟨A, c, c1, c2, c3⟩ := h.s
  have hg := setCell_grown w b 1 (.int .i64 n)
  refine ⟨⟨A, c, ?_, c2.keep fun a e hp => hg.block _ (c2.old.out a e hp) (fun e2 => (c3 a e hp).1 (Option.some.inj e2)), c3⟩, World.cell?_setCell_same _ _ _ h.place, ?_, fun j => by rw [World.frozen?_setCell]; exact h.fz j, h.lo, hn⟩
  · exact (World.cell?_setCell_other _ _ _ _ (by simp)).trans c1
  · exact (World.cell?_setCell_other _ _ _ _ (by simp)).trans h.fault
theorem Rd.setFault {w : World} {base : Nat → Prop} {b : Nat} {P : List UInt8} {at_ e : Nat} (h : Rd w base b P at_ e) (n : Nat) : Rd (w.setCell ⟨b, 2, none⟩ (.int .i64 n)) base b P at_ n := by
  obtain ⟨A, c, c1, c2, c3⟩ := h.s
  have hg := setCell_grown w b 2 (.int .i64 n)
  refine ⟨⟨A, c, ?_, c2.keep fun a e hp => hg.block _ (c2.old.out a e hp) (fun e2 => (c3 a e hp).1 (Option.some.inj e2)), c3⟩, ?_, World.cell?_setCell_same _ _ _ h.fault, fun j => by rw [World.frozen?_setCell]; exact h.fz j, h.lo, h.le⟩
  · exact (World.cell?_setCell_other _ _ _ _ (by simp)).trans c1
  · exact (World.cell?_setCell_other _ _ _ _ (by simp)).trans h.place
/-- a new reader -/
theorem Rd.fresh (w : World) (base : Nat → Prop) (A : Option Addr) (c : Nat) (P : List UInt8) (t : TypeId) (hb : base w.heap.size) (hr : RB w A c P) (hlo : ∀ a, A = some a → 0 < P.length → base a.block) :
    Rd (w.alloc (.cells #[.slice A P.length c, .int .i64 0, .int .i64 0] t)) base w.heap.size P 0 0 := by
  have hh := heap_alloc_new w (.cells #[.slice A P.length c, .int .i64 0, .int .i64 0] t)
  refine ⟨⟨A, c, cell_of_row _ _ _ _ _ _ hh, hr.new ((Below.refl _ _).alloc (Nat.le_refl _) _), fun a e hp => ⟨?_, hlo a e hp⟩⟩, cell_of_row _ _ _ _ _ _ hh, cell_of_row _ _ _ _ _ _ hh, fun j => frozen_of_row _ _ _ _ _ hh, hb, Nat.zero_le _⟩
  have := hr.old.out a e hp
  omega
theorem OB.lo {w : World} {base e : Nat} {A : Option Addr} {n c : Nat} {p : List UInt8} (h : OB w base e (.slice A n c) p) : ∀ a, A = some a → 0 < p.length → base ≤ a.block := by
  intro a ha _
  subst ha
  exact (h.at_base a.block rfl).1

/-- where a part of a list begins -/
def cutA (A : Option Addr) (l c : Nat) : Option Addr := if c = l then A else A.map (·.add l)
theorem run_cut (w : World) (A : Option Addr) (n c : Nat) (L H : Int) (l h : Nat) (hL : L = l) (hH : H = h) (h1 : l ≤ h) (h2 : h ≤ c) :
    (Instr.slice 23 (.slice A n c) (some (.int .i64 L)) (some (.int .i64 H)) none).run Try.prog w = .ok (.slice (cutA A l c) (h - l) (c - l)) w := by
  subst hL
  subst hH
  have hs : (sizeOf (Try.prog.elem 23)).run Try.prog w = .ok 1 w := by kernel_rfl
  rw [run_slice_lh w 23 A n c (by kernel_rfl) .i64 .i64 l h (by omega) (by omega) (by omega), hs]
  simp [Result.andThen, sliced, cutA]
theorem run_cut_l (w : World) (A : Option Addr) (n c : Nat) (L : Int) (l : Nat) (hL : L = l) (h1 : l ≤ n) :
    (Instr.slice 23 (.slice A n c) (some (.int .i64 L)) none none).run Try.prog w = .ok (.slice (cutA A l c) (n - l) (c - l)) w := by
  subst hL
  have hs : (sizeOf (Try.prog.elem 23)).run Try.prog w = .ok 1 w := by kernel_rfl
  rw [run_slice_l w 23 A n c (by kernel_rfl) .i64 l (by omega) (by omega), hs]
  simp [Result.andThen, sliced, cutA]
theorem RB.cut {w : World} {A : Option Addr} {c : Nat} {p : List UInt8} (hr : RB w A c p) (l h : Nat) (h1 : l ≤ h) (h2 : h ≤ p.length) : RB w (cutA A l c) (c - l) ((p.drop l).take (h - l)) := by
  have hlen := hr.len
  have hcap := hr.cap
  refine ⟨fun hp => ?_, fun e => ?_, by simp; omega, by omega⟩
  · have hp' : l < h := by simp at hp; omega
    obtain ⟨a, rfl, hc⟩ := hr.out (by omega)
    refine ⟨a.add l, ?_, fun i hi => ?_⟩
    · unfold cutA; rw [if_neg (by omega)]; rfl
    · have hi' : l + i < p.length := by simp at hi; omega
      have := hc (l + i) hi'
      rw [List.getElem_take, List.getElem_drop]
      rw [show (a.add l).add i = a.add (l + i) by unfold Addr.add; split <;> split <;> split <;> simp_all <;> omega]
      exact this
  · unfold cutA at e
    split at e
    · obtain ⟨h3, rfl⟩ := hr.nil e
      exact ⟨by omega, by simp⟩
    · cases A with
      | none => obtain ⟨h3, rfl⟩ := hr.nil rfl; exact ⟨by omega, by simp⟩
      | some a => simp at e

/-- what NewReader makes: a reader on blocks of its own -/
structure Fresh (w w' : World) (F : Nat → Prop) : Prop where
  lo : ∀ k, F k → w.heap.size ≤ k
  hi : ∀ k, F k → k < w'.heap.size
theorem Rd.weaken {w : World} {F G : Nat → Prop} {b : Nat} {P : List UInt8} {at_ e : Nat} (h : Rd w F b P at_ e) (hg : ∀ k, F k → G k) : Rd w G b P at_ e := by
  obtain ⟨A, c, c1, c2, c3⟩ := h.s
  exact ⟨⟨A, c, c1, c2, fun a ha hp => ⟨(c3 a ha hp).1, hg _ (c3 a ha hp).2⟩⟩, h.place, h.fault, h.fz, hg _ h.lo, h.le⟩
theorem newReader_own (A : Option Addr) (p : List UInt8) (cap n : Nat) (w : World) (hp : RB w A cap p) (hn : n = p.length) (hl : p.length ≤ 140737488355328) :
    Calls Try.prog 35 #[.slice A n cap] w fun e w' => ∃ b F, e = .returned (.pointer (some ⟨b, 0, none⟩)) ∧ Rd w' F b p 0 0 ∧ Fresh w w' F ∧ Below w.heap.size w w' := by
  subst hn
  go_enter Try.func35, Try.ntmps35
  go_wp2_with (go_at_call 59; (with_reducible refine (clone_calls A p cap _ _ hp rfl hl).mono ?_); rintro e w2 ⟨A', c', rfl, hn⟩)
  go_ret
  have hs : (w2.alloc (.cells #[.slice A' p.length c', .int .i64 0, .int .i64 0] 105)).heap.size = w2.heap.size + 1 := Array.size_push ..
  refine ⟨_, fun k => k = w2.heap.size ∨ ∃ a, A' = some a ∧ 0 < p.length ∧ a.block = k, rfl, Rd.fresh _ _ A' c' p _ (.inl rfl) hn.own.reads (fun a ha hp => .inr ⟨a, ha, hp, rfl⟩), ⟨?_, ?_⟩, hn.below.alloc hn.below.size _⟩
  · rintro k (rfl | ⟨a, ha, hp, rfl⟩)
    · exact hn.below.size
    · exact hn.own.lo a ha hp
  · rintro k (rfl | ⟨a, ha, hp, rfl⟩)
    · rw [hs]; omega
    · have := hn.own.reads.old.out a ha hp
      rw [hs]; omega
theorem newReader_calls (A : Option Addr) (p : List UInt8) (cap n : Nat) (w : World) (hp : RB w A cap p) (hn : n = p.length) (hl : p.length ≤ 140737488355328) :
    Calls Try.prog 35 #[.slice A n cap] w fun e w' => ∃ b, e = .returned (.pointer (some ⟨b, 0, none⟩)) ∧ Rd w' (w.heap.size ≤ ·) b p 0 0 ∧ Below w.heap.size w w' :=
  (newReader_own A p cap n w hp hn hl).mono fun _ _ ⟨b, _, h1, h2, h3, h4⟩ => ⟨b, h1, h2.weaken h3.lo, h4⟩

theorem fail_calls (base : Nat → Prop) (b : Nat) (P : List UInt8) (at_ e0 : Nat) (e : Nat) (E : Int) (w : World) (hr : Rd w base b P at_ e0) (hE : E = e) :
    Calls Try.prog 61 #[.pointer (some ⟨b, 0, none⟩), .int .i64 E] w fun e' w' => e' = .returned (.slice none 0 0) ∧ Rd w' base b P at_ e ∧ w.grownBy w' (some b) := by
  subst hE
  have hc := hr.fault
  have hf := hr.fz 2
  have H := Lib.hid (hr.setFault e)
  go_enter Try.func61, Try.ntmps61
  go_wp2
  go_ret
  exact ⟨rfl, H.out, setCell_grown _ _ _ _⟩

theorem at_calls (base : Nat → Prop) (b : Nat) (P : List UInt8) (at_ e : Nat) (w : World) (hr : Rd w base b P at_ e) :
    Calls Try.prog 37 #[.pointer (some ⟨b, 0, none⟩)] w fun e' w' => e' = .returned (.int .i64 at_) ∧ w = w' := by
  have hc := hr.place
  go_enter Try.func37, Try.ntmps37
  go_wp2
  go_ret
  exact ⟨rfl, rfl⟩
theorem err_calls (base : Nat → Prop) (b : Nat) (P : List UInt8) (at_ e : Nat) (w : World) (hr : Rd w base b P at_ e) :
    Calls Try.prog 38 #[.pointer (some ⟨b, 0, none⟩)] w fun e' w' => e' = .returned (.int .i64 e) ∧ w = w' := by
  have hc := hr.fault
  go_enter Try.func38, Try.ntmps38
  go_wp2
  go_ret
  exact ⟨rfl, rfl⟩
def doneE (P : List UInt8) (at_ e : Nat) : Nat := if e ≠ 0 ∨ at_ = P.length then e else 3
theorem done_calls (base : Nat → Prop) (b : Nat) (P : List UInt8) (at_ e : Nat) (w : World) (hr : Rd w base b P at_ e) :
    Calls Try.prog 39 #[.pointer (some ⟨b, 0, none⟩)] w fun e' w' => e' = .returned (.int .i64 (doneE P at_ e)) ∧ Drawn w w' := by
  have hc := hr.place
  obtain ⟨A, c, c1, c2, c3⟩ := hr.s
  by_cases he : e = 0
  · subst he
    by_cases hd : at_ = P.length
    · have hb : ((at_ : Int) == (P.length : Int)) = true := by rw [hd]; simp
      have hfin : doneE P at_ 0 = 0 := by unfold doneE; rw [if_pos (.inr hd)]
      have HF := Lib.hid hfin
      clear hd hfin
      go_enter Try.func39, Try.ntmps39
      go_wp2_with (go_at_call 38; (with_reducible refine (err_calls base b P at_ 0 _ hr).mono ?_); rintro e w2 ⟨rfl, rfl⟩)
      go_quiet (fail)
      go_wp2
      go_ret
      exact ⟨ret_int (by rw [HF.out]; rfl), ⟨_, rfl⟩⟩
    · have hb : ((at_ : Int) == (P.length : Int)) = false := by rw [beq_eq_false_iff_ne]; omega
      have hfin : doneE P at_ 0 = 3 := by simp [doneE, hd]
      have HF := Lib.hid hfin
      clear hd hfin
      go_enter Try.func39, Try.ntmps39
      go_wp2_with (go_at_call 38; (with_reducible refine (err_calls base b P at_ 0 _ hr).mono ?_); rintro e w2 ⟨rfl, rfl⟩)
      go_quiet (fail)
      go_wp2
      go_ret
      exact ⟨ret_int (by rw [HF.out]; rfl), ⟨_, rfl⟩⟩
  · have hb : ((e : Int) != 0) = true := by rw [bne_iff_ne]; omega
    have hfin : doneE P at_ e = e := by simp [doneE, he]
    have HF := Lib.hid hfin
    clear he hfin
    go_enter Try.func39, Try.ntmps39
    go_wp2_with (go_at_call 38; (with_reducible refine (err_calls base b P at_ e _ hr).mono ?_); rintro e w2 ⟨rfl, rfl⟩)
    go_quiet (fail)
    go_wp2
    go_ret
    exact ⟨ret_int (by rw [HF.out]), ⟨_, rfl⟩⟩

/-- the next n bytes; nothing behind a fault or where there aren't so many -/
theorem take_fault (base : Nat → Prop) (b : Nat) (P : List UInt8) (at_ e : Nat) (n : Int) (w : World) (hr : Rd w base b P at_ e) (he : e ≠ 0) :
    Calls Try.prog 82 #[.pointer (some ⟨b, 0, none⟩), .int .i64 n] w fun e' w' => e' = .returned (.slice none 0 0) ∧ w = w' := by
  have hc := hr.fault
  have hb : ((e : Int) != 0) = true := by rw [bne_iff_ne]; omega
  clear he
  go_enter Try.func82, Try.ntmps82
  go_wp2
  go_ret
  exact ⟨rfl, rfl⟩
theorem take_short (base : Nat → Prop) (b : Nat) (P : List UInt8) (at_ : Nat) (n : Nat) (N : Int) (hN : N = n) (w : World) (hr : Rd w base b P at_ 0) (hn : P.length - at_ < n) (hl : P.length ≤ 9223372036854775807) :
    Calls Try.prog 82 #[.pointer (some ⟨b, 0, none⟩), .int .i64 N] w fun e' w' => e' = .returned (.slice none 0 0) ∧ Rd w' base b P at_ 3 ∧ w.grownBy w' (some b) := by
  subst hN
  have hc := hr.fault
  have hp := hr.place
  have hle := hr.le
  obtain ⟨A, c, c1, c2, c3⟩ := hr.s
  have h3 := Lib.hid (show (3 : Int) = ((3 : Nat) : Int) from rfl)
  go_enter Try.func82, Try.ntmps82
  have hw : IntKind.i64.wrap ((P.length : Int) - at_) = (P.length : Int) - at_ := IntWalk.i64_in _ (by omega)
  have hb : decide ((P.length : Int) - at_ < n) = true := by rw [decide_eq_true_eq]; omega
  go_wp2
  go_quiet (fail)
  clear hw
  go_wp2_with (go_at_call 61; (with_reducible refine (fail_calls base b P at_ 0 3 _ _ (hr.new (Drawn.below ⟨_, rfl⟩ _)) h3.out).mono ?_); rintro e w2 ⟨rfl, hr2, hg2⟩)
  go_ret
  exact ⟨rfl, hr2, grown_trans (grown_of_below (Drawn.below ⟨_, rfl⟩ _) _) hg2⟩
theorem take_ok (base : Nat → Prop) (b : Nat) (P : List UInt8) (at_ : Nat) (n : Nat) (N : Int) (hN : N = n) (w : World) (hr : Rd w base b P at_ 0) (hn : at_ + n ≤ P.length) (hl : P.length ≤ 9223372036854775807) :
    Calls Try.prog 82 #[.pointer (some ⟨b, 0, none⟩), .int .i64 N] w fun e' w' => ∃ A' c', e' = .returned (.slice A' n c') ∧ RB w' A' c' ((P.drop at_).take n) ∧ Rd w' base b P (at_ + n) 0 ∧ w.grownBy w' (some b) := by
  subst hN
  have hc := hr.fault
  have hp := hr.place
  have hf := hr.fz 1
  obtain ⟨A, c, c1, c2, c3⟩ := hr.s
  have hw : IntKind.i64.wrap ((P.length : Int) - at_) = (P.length : Int) - at_ := IntWalk.i64_in _ (by omega)
  have hb : decide ((P.length : Int) - at_ < n) = false := by rw [decide_eq_false_iff_not]; omega
  go_enter Try.func82, Try.ntmps82
  go_wp2
  go_quiet (fail)
  rename Nat => nq0
  clear hw hb
  go_wp2
  have hw : IntKind.i64.wrap ((at_ : Int) + n - n) = at_ := by rw [Int.add_sub_cancel]; exact IntWalk.i64_in _ (by omega)
  have hcap := c2.len
  have hsl := fun w' : World => run_cut w' A P.length c at_ ((at_ : Int) + n) at_ (at_ + n) rfl (by omega) (by omega) (by omega)
  rw [Nat.add_sub_cancel_left] at hsl
  have HR := Lib.hid (hr.new (Drawn.below (w' := w.drewN nq0) ⟨nq0, rfl⟩ _))
  go_quiet (fail)
  go_wp2
  go_ret
  have hB : Below w.heap.size w (w.drewN nq0) := Drawn.below ⟨nq0, rfl⟩ _
  have hS := HR.out.setPlace (at_ + n) hn
  have hD := Drawn.below (w := (w.drewN nq0).setCell ⟨b, 1, none⟩ (.int .i64 ((at_ + n : Nat) : Int))) (w' := ((w.drewN nq0).setCell ⟨b, 1, none⟩ (.int .i64 ((at_ + n : Nat) : Int))).drewN nq) ⟨nq, rfl⟩ ((w.drewN nq0).setCell ⟨b, 1, none⟩ (.int .i64 ((at_ + n : Nat) : Int))).heap.size
  have hG : w.grownBy (((w.drewN nq0).setCell ⟨b, 1, none⟩ (.int .i64 ((at_ + n : Nat) : Int))).drewN nq) (some b) := grown_new (grown_trans (grown_of_below hB _) (setCell_grown _ _ _ _)) hD
  have hC := c2.keep (w' := ((w.drewN nq0).setCell ⟨b, 1, none⟩ (.int .i64 ((at_ + n : Nat) : Int))).drewN nq) fun a e hp => hG.block _ (c2.old.out a e hp) (fun e2 => (c3 a e hp).1 (Option.some.inj e2))
  have hcut := hC.cut at_ (at_ + n) (by omega) hn
  rw [Nat.add_sub_cancel_left] at hcut
  exact ⟨_, _, rfl, hcut, hS.new hD, hG⟩

open WireMath (beN numS grpL grpTo)
theorem numS_lt (P : List UInt8) (at_ e n : Nat) : (numS P at_ e n).1 < 256 ^ n := by
  unfold WireMath.numS
  split
  · exact Nat.pow_pos (by decide)
  · split
    · exact Nat.pow_pos (by decide)
    · exact WireMath.beN_lt _ n (List.length_take_le _ _)
theorem bits_or_byte (v : Nat) (c : UInt8) (hv : v < 72057594037927936) : bits .or .u64 ((v : Int) * 256) (uB c) = ((v * 256 + c.toNat : Nat) : Int) := by
  have hc := c.toNat_lt
  have h := bits_join .u64 64 (by decide) (fun n h0 h1 => by rw [IntKind.wrap_u64]; omega) 8 ((v : Int) * 256) (uB c) (by omega) (by omega) (by omega) (uB_range c).1 (by have := uB_range c; omega) (by have := uB_range c; omega)
  rw [h]
  unfold uB
  simp

theorem number_calls (base : Nat → Prop) (b : Nat) (P : List UInt8) (at_ e n : Nat) (N : Int) (hN : N = n) (w : World) (hr : Rd w base b P at_ e) (hl : P.length ≤ 9223372036854775807) (hn : n ≤ 8) :
    Calls Try.prog 62 #[.pointer (some ⟨b, 0, none⟩), .int .i64 N] w fun e' w' => e' = .returned (.int .u64 (numS P at_ e n).1) ∧ Rd w' base b P (numS P at_ e n).2.1 (numS P at_ e n).2.2 ∧ w.grownBy w' (some b) := by
  subst hN
  unfold WireMath.numS
  by_cases he : e ≠ 0
  · rw [if_pos he]
    have HE := Lib.hid he
    clear he
    go_enter Try.func62, Try.ntmps62
    go_wp2_with (go_at_call 82; (with_reducible refine (take_fault base b P at_ e _ _ hr HE.out).mono ?_); rintro e2 w2 ⟨rfl, rfl⟩)
    refine wp_loop_rounds 1 ?_
    rw [rounds_succ]
    go_wp2
    go_ret
    exact ⟨rfl, hr, grown_refl _ _⟩
  · rw [if_neg he]
    obtain rfl : e = 0 := by omega
    clear he
    by_cases hs : P.length - at_ < n
    · rw [if_pos hs]
      have HS := Lib.hid hs
      clear hs
      go_enter Try.func62, Try.ntmps62
      go_wp2_with (go_at_call 82; (with_reducible refine (take_short base b P at_ n _ rfl _ hr HS.out hl).mono ?_); rintro e2 w2 ⟨rfl, hr2, hg2⟩)
      refine wp_loop_rounds 1 ?_
      rw [rounds_succ]
      go_wp2
      go_ret
      exact ⟨rfl, hr2, hg2⟩
    · rw [if_neg hs]
      have hok : at_ + n ≤ P.length := by have := hr.le; omega
      have HOK := Lib.hid hok
      clear hs hok
      go_enter Try.func62, Try.ntmps62
      go_wp2_with (go_at_call 82; (with_reducible refine (take_ok base b P at_ n _ rfl _ hr HOK.out hl).mono ?_); rintro e2 w2 ⟨A', c', rfl, hb2, hr2, hg2⟩)
      have hql : ((P.drop at_).take n).length = n := by have := HOK.out; simp; omega
      generalize hq : (P.drop at_).take n = q at hb2 hql
      have HQ := Lib.hid hq
      have HQL := Lib.hid hql
      clear hq hql
      go_loop [5, 12] (fun v i => ∃ k : Nat, k ≤ n ∧ i = .int .i64 k ∧ v = .int .u64 (beN (q.take k))) (fun _ i => n - (intOf i).toNat)
      case atStart => exact ⟨0, by omega, rfl, rfl⟩
      case round =>
        obtain ⟨k, hk, rfl, rfl⟩ := hrel
        by_cases hlt : k < n
        · have hkq : k < q.length := by rw [HQL.out]; exact hlt
          obtain ⟨a, rfl, hc⟩ := hb2.at_ k hkq
          have hq8 := WireMath.beN_lt (q.take k) 7 (by have := HQL.out; simp; omega)
          have hsn : beN (q.take (k + 1)) = beN (q.take k) * 256 + q[k].toNat := by
            rw [List.take_succ_eq_append_getElem hkq, WireMath.beN_snoc]
          have hor := bits_or_byte (beN (q.take k)) q[k] (by simpa using hq8)
          have hbr := uB_range q[k]
          have hq9 : (beN (q.take k) : Int) ≤ 72057594037927935 := by simp at hq8; omega
          have HSN := Lib.hid hsn
          clear hq8 hsn
          generalize beN (q.take k) = bv at *
          go_wp2
          go_round
          case rel => exact ⟨k + 1, by omega, (by first | rfl | go_num), by rw [HSN.out]; congr 1⟩
          case measure => simp [intOf] <;> omega
        · have hkn : k = n := by omega
          have HKN := Lib.hid hkn
          clear hkn
          go_wp2
          go_ret
          exact ⟨ret_int (by rw [HKN.out, HQ.out, List.take_of_length_le (by rw [HQL.out]; omega)]), hr2, hg2⟩

theorem ru8_calls (base : Nat → Prop) (b : Nat) (P : List UInt8) (at_ e : Nat) (w : World) (hr : Rd w base b P at_ e) (hl : P.length ≤ 9223372036854775807) :
    Calls Try.prog 40 #[.pointer (some ⟨b, 0, none⟩)] w fun e' w' => e' = .returned (.int .u8 (numS P at_ e 1).1) ∧ Rd w' base b P (numS P at_ e 1).2.1 (numS P at_ e 1).2.2 ∧ w.grownBy w' (some b) := by
  have hlt := numS_lt P at_ e 1
  have hN := Lib.hid (show (1 : Int) = ((1 : Nat) : Int) from rfl)
  generalize hr0 : numS P at_ e 1 = r at hlt
  have hri : ((r.1 : Nat) : Int) ≤ 255 := by simp at hlt; omega
  have HR := Lib.hid hr0
  clear hr0 hlt
  go_enter Try.func40, Try.ntmps40
  go_wp2_with (go_at_call 62; (with_reducible refine (number_calls base b P at_ e 1 _ hN.out _ hr hl (by omega)).mono ?_); rw [HR.out]; rintro e2 w2 ⟨rfl, hr2, hg2⟩)
  go_ret
  exact ⟨rfl, hr2, hg2⟩

theorem ru16_calls (base : Nat → Prop) (b : Nat) (P : List UInt8) (at_ e : Nat) (w : World) (hr : Rd w base b P at_ e) (hl : P.length ≤ 9223372036854775807) :
    Calls Try.prog 72 #[.pointer (some ⟨b, 0, none⟩)] w fun e' w' => e' = .returned (.int .u16 (numS P at_ e 2).1) ∧ Rd w' base b P (numS P at_ e 2).2.1 (numS P at_ e 2).2.2 ∧ w.grownBy w' (some b) := by
  have hlt := numS_lt P at_ e 2
  have hN := Lib.hid (show (2 : Int) = ((2 : Nat) : Int) from rfl)
  generalize hr0 : numS P at_ e 2 = r at hlt
  have hri : ((r.1 : Nat) : Int) ≤ 65535 := by simp at hlt; omega
  have HR := Lib.hid hr0
  clear hr0 hlt
  go_enter Try.func72, Try.ntmps72
  go_wp2_with (go_at_call 62; (with_reducible refine (number_calls base b P at_ e 2 _ hN.out _ hr hl (by omega)).mono ?_); rw [HR.out]; rintro e2 w2 ⟨rfl, hr2, hg2⟩)
  go_ret
  exact ⟨rfl, hr2, hg2⟩

theorem ru32_calls (base : Nat → Prop) (b : Nat) (P : List UInt8) (at_ e : Nat) (w : World) (hr : Rd w base b P at_ e) (hl : P.length ≤ 9223372036854775807) :
    Calls Try.prog 48 #[.pointer (some ⟨b, 0, none⟩)] w fun e' w' => e' = .returned (.int .u32 (numS P at_ e 4).1) ∧ Rd w' base b P (numS P at_ e 4).2.1 (numS P at_ e 4).2.2 ∧ w.grownBy w' (some b) := by
  have hlt := numS_lt P at_ e 4
  have hN := Lib.hid (show (4 : Int) = ((4 : Nat) : Int) from rfl)
  generalize hr0 : numS P at_ e 4 = r at hlt
  have hri : ((r.1 : Nat) : Int) ≤ 4294967295 := by simp at hlt; omega
  have HR := Lib.hid hr0
  clear hr0 hlt
  go_enter Try.func48, Try.ntmps48
  go_wp2_with (go_at_call 62; (with_reducible refine (number_calls base b P at_ e 4 _ hN.out _ hr hl (by omega)).mono ?_); rw [HR.out]; rintro e2 w2 ⟨rfl, hr2, hg2⟩)
  go_ret
  exact ⟨rfl, hr2, hg2⟩

theorem ru64_calls (base : Nat → Prop) (b : Nat) (P : List UInt8) (at_ e : Nat) (w : World) (hr : Rd w base b P at_ e) (hl : P.length ≤ 9223372036854775807) :
    Calls Try.prog 49 #[.pointer (some ⟨b, 0, none⟩)] w fun e' w' => e' = .returned (.int .u64 (numS P at_ e 8).1) ∧ Rd w' base b P (numS P at_ e 8).2.1 (numS P at_ e 8).2.2 ∧ w.grownBy w' (some b) := by
  have hN := Lib.hid (show (8 : Int) = ((8 : Nat) : Int) from rfl)
  go_enter Try.func49, Try.ntmps49
  go_wp2_with (go_at_call 62; (with_reducible refine (number_calls base b P at_ e 8 _ hN.out _ hr hl (by omega)).mono ?_); rintro e2 w2 ⟨rfl, hr2, hg2⟩)
  go_ret
  exact ⟨rfl, hr2, hg2⟩
end Go.Proofs.Ytlcbjjgmkllceaa

/- The walks of the reader's groups, bytes and blobs. -/
namespace Go.Proofs.Ytlcbjjgmkllceaa
open Go.RowKit
open WireMath (beN numS grpL grpTo)

theorem bits_and_127 (c : UInt8) : bits .and .u8 (uB c) 127 = ((c.toNat % 128 : Nat) : Int) := by
  have h := uB_range c
  have h2 := bits_mask .u8 8 (by decide) wraps_u8 7 (by decide) (uB c) h.1 (by omega)
  rw [show ((2 : Int) ^ 7 - 1) = 127 from rfl] at h2
  rw [h2]
  unfold uB
  simp

theorem bits_or_comm (k : IntKind) (x y : Int) : bits .or k x y = bits .or k y x := by
  show k.wrap ((BitVec.ofInt k.bits x ||| BitVec.ofInt k.bits y).toNat : Int) = k.wrap ((BitVec.ofInt k.bits y ||| BitVec.ofInt k.bits x).toNat : Int)
  rw [BitVec.or_comm]
theorem grp_or (x : Nat) (c : UInt8) (k : Nat) (hk : k ≤ 9) (hx : x < 128 ^ k) (h9 : k = 9 → c.toNat % 128 ≤ 1) :
    bits .or .u64 (x : Int) (IntKind.u64.wrap ((c.toNat : Int) % 128 * 2 ^ (7 * k))) = ((x + c.toNat % 128 * 128 ^ k : Nat) : Int) := by
  have hp : (128 : Nat) ^ k = 2 ^ (7 * k) := by rw [Nat.pow_mul]
  have hlt : c.toNat % 128 * 128 ^ k + 128 ^ k ≤ 2 ^ 64 := by
    by_cases e : k = 9
    · subst e
      have := h9 rfl
      have h3 : c.toNat % 128 * 128 ^ 9 ≤ 1 * 128 ^ 9 := Nat.mul_le_mul_right _ this
      exact Nat.le_trans (Nat.add_le_add_right h3 _) (by decide)
    · have h1 : 128 ^ k ≤ 128 ^ 8 := Nat.pow_le_pow_right (by decide) (by omega)
      have h2 : (c.toNat % 128 + 1) * 128 ^ k ≤ 128 * 128 ^ 8 := Nat.mul_le_mul (by omega) h1
      rw [Nat.add_mul, Nat.one_mul] at h2
      exact Nat.le_trans h2 (by decide)
  have e1 : (c.toNat : Int) % 128 * 2 ^ (7 * k) = ((c.toNat % 128 * 128 ^ k : Nat) : Int) := by rw [hp]; simp
  rw [e1]
  have hw : IntKind.u64.wrap ((c.toNat % 128 * 128 ^ k : Nat) : Int) = ((c.toNat % 128 * 128 ^ k : Nat) : Int) := by
    rw [IntKind.wrap_u64]
    have h0 : 0 < 128 ^ k := Nat.pow_pos (by decide)
    generalize c.toNat % 128 * 128 ^ k = m at *
    generalize 128 ^ k = z at *
    have : (2 : Nat) ^ 64 = 18446744073709551616 := by decide
    omega
  rw [hw, bits_or_comm]
  have hmod : ((c.toNat % 128 * 128 ^ k : Nat) : Int) % 2 ^ (7 * k) = 0 := by
    have : (c.toNat % 128 * 128 ^ k) % 2 ^ (7 * k) = 0 := by rw [hp]; exact Nat.mul_mod_left _ _
    have e2 : ((c.toNat % 128 * 128 ^ k : Nat) : Int) % 2 ^ (7 * k) = (((c.toNat % 128 * 128 ^ k) % 2 ^ (7 * k) : Nat) : Int) := by simp
    rw [e2, this]; rfl
  have hxi : (x : Int) < 2 ^ (7 * k) := by
    have : ((2 ^ (7 * k) : Nat) : Int) = 2 ^ (7 * k) := by simp
    rw [← this, ← hp]; omega
  have h0 : 0 < 128 ^ k := Nat.pow_pos (by decide)
  have hb := bits_join .u64 64 (by decide) (fun n h0 h1 => by rw [IntKind.wrap_u64]; omega) (7 * k) ((c.toNat % 128 * 128 ^ k : Nat) : Int) (x : Int) (by omega) hmod
    (by have : (2 : Int) ^ 64 = ((2 ^ 64 : Nat) : Int) := by decide
        rw [this]; omega) (by omega) hxi
    (by have : (2 : Int) ^ 64 = ((2 ^ 64 : Nat) : Int) := by decide
        rw [this]; omega)
  rw [hb]
  omega
theorem grp_next (x : Nat) (c : UInt8) (k : Nat) (hx : x < 128 ^ k) : x + c.toNat % 128 * 128 ^ k < 128 ^ (k + 1) := by
  have h2 : (c.toNat % 128 + 1) * 128 ^ k ≤ 128 * 128 ^ k := Nat.mul_le_mul_right _ (by omega)
  rw [Nat.add_mul, Nat.one_mul] at h2
  rw [Nat.pow_succ]
  omega

set_option maxRecDepth 100000 in
theorem group_calls (base : Nat → Prop) (b : Nat) (P : List UInt8) (at_ e : Nat) (w : World) (hr : Rd w base b P at_ e) (hl : P.length ≤ 9223372036854775807) :
    Calls Try.prog 60 #[.pointer (some ⟨b, 0, none⟩)] w fun e' w' => e' = .returned (.tuple #[.int .u64 (grpL (P.drop at_)).1, .int .i64 (grpL (P.drop at_)).2]) ∧ Drawn w w' := by
  have hp := hr.place
  have hle := hr.le
  obtain ⟨A, c, c1, c2, c3⟩ := hr.s
  have hcap := c2.len
  have hcut := c2.cut at_ P.length hle (Nat.le_refl _)
  rw [List.take_of_length_le (by simp)] at hcut
  have hsl := fun w' : World => run_cut_l w' A P.length c (at_ : Int) at_ rfl hle
  go_enter Try.func60, Try.ntmps60
  go_wp2
  go_quiet (fail)
  rename Nat => nq0
  clear hsl
  have hql : (P.drop at_).length = P.length - at_ := by simp
  generalize hq : P.drop at_ = q at hcut hql
  generalize hA : cutA A at_ c = A2 at *
  generalize hc9 : c - at_ = c2' at *
  have HQL := Lib.hid hql
  have HQ := Lib.hid hq
  clear hql hq hA hc9 c1 c2 c3 hr hp
  go_wp2
  go_loop [4, 17] (fun v i => ∃ (k x : Nat), k ≤ q.length ∧ k ≤ 9 ∧ x < 128 ^ k ∧ i = .int .i64 k ∧ v = .int .u64 x ∧ Hid (grpTo k x (q.drop k) = grpL q)) (fun _ i => P.length - (intOf i).toNat)
  case atStart => exact ⟨0, 0, by omega, by omega, by simp, rfl, rfl, Lib.hid rfl⟩
  case round =>
    obtain ⟨k, x, hk, hk9, hx, rfl, rfl, HG⟩ := hrel
    by_cases hlt : k < q.length
    · have hlt2 : (k : Int) < ((P.length - at_ : Nat) : Int) := by have := HQL.out; omega
      have hdrop : q.drop k = q[k] :: q.drop (k + 1) := List.drop_eq_getElem_cons hlt
      obtain ⟨a, rfl, hc⟩ := hcut.at_ k hlt
      have hand := bits_and_127 q[k]
      have hbr := uB_range q[k]
      generalize q[k] = ch at *
      have hg : grpL q = grpTo k x (ch :: q.drop (k + 1)) := by rw [← hdrop]; exact HG.out.symm
      clear HG hdrop
      by_cases k9 : k = 9
      · have hk9b : ((k : Int) == 9) = true := by rw [k9]; rfl
        by_cases hc1 : ch = 1
        · have hfin : grpL q = (x + ch.toNat % 128 * 128 ^ k, k + 1) := by
            rw [hg]; unfold WireMath.grpTo
            rw [if_neg (by rw [hc1]; simp), if_pos (by rw [hc1]; decide)]
          have hor := grp_or x ch k hk9 hx (fun _ => by rw [hc1]; decide)
          have hcn : (uB ch != 1) = false := by rw [hc1]; decide
          have hc0 : (uB ch == 0) = false := by rw [hc1]; decide
          have hcl : uB ch < 128 := by rw [hc1]; decide
          have hkp : 0 < k := by omega
          clear hg hx
          generalize x + ch.toNat % 128 * 128 ^ k = nv at *
          have HF := Lib.hid hfin
          clear hfin k9 hc1
          go_wp2
          go_ret2
          exact ⟨by rw [HQ.out, HF.out]; rfl, ⟨_, rfl⟩⟩
        · have hfin : grpL q = (0, 0) := by
            rw [hg]; unfold WireMath.grpTo
            rw [if_pos (.inl ⟨k9, hc1⟩)]
          have hcn : (uB ch != 1) = true := by rw [bne_iff_ne]; intro e; apply hc1; unfold uB at e; exact UInt8.toNat_inj.1 (by simp; omega)
          have HF := Lib.hid hfin
          clear hfin k9 hc1 hg
          go_wp2
          go_ret2
          exact ⟨by rw [HQ.out, HF.out]; rfl, ⟨_, rfl⟩⟩
      · have hk9b : ((k : Int) == 9) = false := by rw [beq_eq_false_iff_ne]; omega
        have hk8 : k ≤ 8 := by omega
        by_cases hz : 0 < k ∧ ch = 0
        · obtain ⟨hkp, hz⟩ := hz
          have hfin : grpL q = (0, 0) := by
            rw [hg]; unfold WireMath.grpTo
            rw [if_pos (.inr ⟨hkp, hz⟩)]
          have hc0 : (uB ch == 0) = true := by rw [hz]; rfl
          have HF := Lib.hid hfin
          clear hfin k9 hz hg
          go_wp2
          go_ret2
          exact ⟨by rw [HQ.out, HF.out]; rfl, ⟨_, rfl⟩⟩
        · have hor := grp_or x ch k hk9 hx (fun e => absurd e k9)
          have hnx := grp_next x ch k hx
          have hskip : grpTo k x (ch :: q.drop (k + 1)) = if ch.toNat < 128 then (x + ch.toNat % 128 * 128 ^ k, k + 1) else grpTo (k + 1) (x + ch.toNat % 128 * 128 ^ k) (q.drop (k + 1)) := by
            show (if (k = 9 ∧ ch ≠ 1) ∨ (0 < k ∧ ch = 0) then (0, 0) else _) = _
            rw [if_neg (by intro h; rcases h with ⟨h, _⟩ | h; exact k9 h; exact hz h)]
          rw [hskip] at hg
          have hguard : (0 < k → (uB ch == 0) = false) := by
            intro h0
            rw [beq_eq_false_iff_ne]; intro e; apply hz; refine ⟨h0, ?_⟩; unfold uB at e; exact UInt8.toNat_inj.1 (by simp; omega)
          have HGD := Lib.hid hguard
          clear hx hskip hguard hz k9
          generalize x + ch.toNat % 128 * 128 ^ k = nv at *
          have HNX := Lib.hid hnx
          clear hnx
          by_cases hcl : ch.toNat < 128
          · rw [if_pos hcl] at hg
            have hcu : uB ch < 128 := by unfold uB; omega
            have HF := Lib.hid hg
            clear hg hcl
            by_cases hkp : 0 < k
            · have hc0 := HGD.out hkp
              go_wp2
              go_ret2
              exact ⟨by rw [HQ.out, HF.out]; rfl, ⟨_, rfl⟩⟩
            · go_wp2
              go_ret2
              exact ⟨by rw [HQ.out, HF.out]; rfl, ⟨_, rfl⟩⟩
          · rw [if_neg hcl] at hg
            have hcu : 128 ≤ uB ch := by unfold uB; omega
            have HF := Lib.hid hg
            clear hg hcl
            by_cases hkp : 0 < k
            · have hc0 := HGD.out hkp
              go_wp2
              go_round
              case rel => exact ⟨k + 1, nv, by omega, by omega, HNX.out, (by first | rfl | go_num), rfl, Lib.hid HF.out.symm⟩
              case measure => simp [intOf] <;> omega
            · go_wp2
              go_round
              case rel => exact ⟨k + 1, nv, by omega, by omega, HNX.out, (by first | rfl | go_num), rfl, Lib.hid HF.out.symm⟩
              case measure => simp [intOf] <;> omega
    · have hlt2 : ¬ (k : Int) < ((P.length - at_ : Nat) : Int) := by have := HQL.out; omega
      have hfin : grpL q = (0, 0) := by
        rw [← HG.out, List.drop_of_length_le (by omega)]; cases k <;> rfl
      have HF := Lib.hid hfin
      clear hfin
      go_wp2
      go_ret2
      exact ⟨by rw [HQ.out, HF.out]; rfl, ⟨_, rfl⟩⟩

open WireMath (uvarS rawS blobS)
theorem grpLe (P : List UInt8) (at_ : Nat) (h : at_ ≤ P.length) : at_ + (grpL (P.drop at_)).2 ≤ P.length := by
  have := WireMath.grpL_le (P.drop at_)
  rw [List.length_drop] at this
  omega
theorem grown_drawn {w w' : World} (h : Drawn w w') (row : Option Nat) : w.grownBy w' row := grown_of_below (h.below _) row

end Go.Proofs.Ytlcbjjgmkllceaa

/- The walks of the reader's Uvar, Raw and Blob. -/
namespace Go.Proofs.Ytlcbjjgmkllceaa
open Go.RowKit
open WireMath (beN numS grpL grpTo uvarS rawS blobS)

set_option maxRecDepth 100000 in
theorem ruvar_calls (base : Nat → Prop) (b : Nat) (P : List UInt8) (at_ e : Nat) (w : World) (hr : Rd w base b P at_ e) (hl : P.length ≤ 9223372036854775807) :
    Calls Try.prog 36 #[.pointer (some ⟨b, 0, none⟩)] w fun e' w' => e' = .returned (.int .u64 (uvarS P at_ e).1) ∧ Rd w' base b P (uvarS P at_ e).2.1 (uvarS P at_ e).2.2 ∧ w.grownBy w' (some b) := by
  have hfa := hr.fault
  by_cases he : e = 0
  · subst he
    have hg := grpLe P at_ hr.le
    have hz := WireMath.grpTo_zero (P.drop at_) 0 0
    have hU : uvarS P at_ 0 = ((grpL (P.drop at_)).1, at_ + (grpL (P.drop at_)).2, if (grpL (P.drop at_)).2 = 0 then 3 else 0) := by unfold WireMath.uvarS; rw [if_neg (by simp)]
    have hcall := fun w' (h : Rd w' base b P at_ 0) => group_calls base b P at_ 0 w' h hl
    replace hz : (grpL (P.drop at_)).2 = 0 → (grpL (P.drop at_)).1 = 0 := hz
    generalize grpL (P.drop at_) = g at *
    have HC := Lib.hid hcall
    have HU := Lib.hid hU
    clear hcall hU
    have h3 := Lib.hid (show (3 : Int) = ((3 : Nat) : Int) from rfl)
    by_cases hn : g.2 = 0
    · have hnb : ((g.2 : Int) == 0) = true := by rw [hn]; rfl
      have HN := Lib.hid hn
      have HZ := Lib.hid (hz hn)
      clear hn hz
      go_enter Try.func36, Try.ntmps36
      go_wp2_with (first | (go_at_call 60; (with_reducible refine (HC.out _ hr).mono ?_); rintro e2 w2 ⟨rfl, hd⟩) | (go_at_call 61; (with_reducible refine (fail_calls base b P at_ 0 3 _ _ (hr.new (hd.below _)) h3.out).mono ?_); rintro e2 w3 ⟨rfl, hr3, hg3⟩; have hp3 := hr3.place; have hf3 := hr3.fz 1))
      go_ret
      have hs := hr3.setPlace (at_ + g.2) hg
      rw [HU.out, HN.out]
      rw [HN.out] at hs
      exact ⟨rfl, hs, grown_trans (grown_trans (grown_drawn hd _) hg3) (setCell_grown _ _ _ _)⟩
    · have hnb : ((g.2 : Int) == 0) = false := by rw [beq_eq_false_iff_ne]; omega
      have hp := hr.place
      have hf := hr.fz 1
      have HN := Lib.hid hn
      clear hn hz
      go_enter Try.func36, Try.ntmps36
      go_wp2_with (go_at_call 60; (with_reducible refine (HC.out _ hr).mono ?_); rintro e2 w2 ⟨rfl, hd⟩; have hr2 := hr.new (hd.below _); have hp2 := hr2.place; have hf2 := hr2.fz 1)
      go_ret
      have hs := hr2.setPlace (at_ + g.2) hg
      rw [HU.out, if_neg HN.out]
      exact ⟨rfl, hs, grown_trans (grown_drawn hd _) (setCell_grown _ _ _ _)⟩
  · have hb : ((e : Int) != 0) = true := by rw [bne_iff_ne]; omega
    have hU : uvarS P at_ e = (0, at_, e) := by unfold WireMath.uvarS; rw [if_pos he]
    have HU := Lib.hid hU
    clear hU he
    go_enter Try.func36, Try.ntmps36
    go_wp2
    go_ret
    rw [HU.out]
    exact ⟨rfl, hr, grown_refl _ _⟩

/-- what a reader's call for bytes leaves -/
structure Got (w w' : World) (base : Nat → Prop) (b : Nat) (P : List UInt8) (v : Value) (r : List UInt8 × Nat × Nat) : Prop where
  own : OB w' w.heap.size 5 v r.1
  rd : Rd w' base b P r.2.1 r.2.2
  grown : w.grownBy w' (some b)

set_option maxRecDepth 100000 in
theorem rraw_calls (base : Nat → Prop) (b : Nat) (P : List UInt8) (at_ e : Nat) (n : Int) (w : World) (hr : Rd w base b P at_ e) (hl : P.length ≤ 140737488355328) (hn : n ≤ 9223372036854775807) :
    Calls Try.prog 73 #[.pointer (some ⟨b, 0, none⟩), .int .i64 n] w fun e' w' => ∃ A' c', e' = .returned (.slice A' (rawS P at_ e n).1.length c') ∧ Got w w' base b P (.slice A' (rawS P at_ e n).1.length c') (rawS P at_ e n) := by
  have hfa := hr.fault
  have h1 := Lib.hid (show (1 : Int) = ((1 : Nat) : Int) from rfl)
  by_cases he : e = 0
  · subst he
    by_cases hneg : n < 0
    · have hU : rawS P at_ 0 n = ([], at_, 1) := by unfold WireMath.rawS; rw [if_neg (by simp), if_pos hneg]
      rw [hU]
      clear hU
      go_enter Try.func73, Try.ntmps73
      go_wp2_with (go_at_call 61; (with_reducible refine (fail_calls base b P at_ 0 1 _ _ hr h1.out).mono ?_); rintro e2 w3 ⟨rfl, hr3, hg3⟩)
      go_ret
      exact ⟨none, 0, rfl, OB.nil _ _ _, hr3, hg3⟩
    · obtain ⟨m, rfl⟩ := Int.eq_ofNat_of_zero_le (by omega : 0 ≤ n)
      by_cases hs : P.length - at_ < m
      · have hU : rawS P at_ 0 m = ([], at_, 3) := by unfold WireMath.rawS; rw [if_neg (by simp), if_neg hneg, if_pos (by omega)]
        rw [hU]
        have HS := Lib.hid hs
        clear hU hs hneg
        go_enter Try.func73, Try.ntmps73
        go_wp2_with (first | (go_at_call 82; (with_reducible refine (take_short base b P at_ m _ rfl _ hr HS.out (by omega)).mono ?_); rintro e2 w2 ⟨rfl, hr2, hg2⟩) | (go_at_call 59; (with_reducible refine (clone_calls none [] 0 0 _ (RB.void _) (by simp) (by simp)).mono ?_); rintro e w3 ⟨A', c', rfl, hn3⟩))
        go_ret
        exact ⟨_, _, rfl, hn3.own.mono hg2.size, hr2.new hn3.below, grown_new hg2 hn3.below⟩
      · have hok : at_ + m ≤ P.length := by have := hr.le; omega
        have hU : rawS P at_ 0 m = ((P.drop at_).take m, at_ + m, 0) := by unfold WireMath.rawS; rw [if_neg (by simp), if_neg hneg, if_neg (by omega)]; simp
        rw [hU]
        have hql : ((P.drop at_).take m).length = m := by simp; omega
        have htk := fun w' (h : Rd w' base b P at_ 0) => take_ok base b P at_ m _ rfl w' h hok (by omega)
        generalize hq : (P.drop at_).take m = q at *
        have HT := Lib.hid htk
        have HQL := Lib.hid hql
        have HOK := Lib.hid hok
        clear hU hs hneg hql htk hok hq
        go_enter Try.func73, Try.ntmps73
        go_wp2_with (first | (go_at_call 82; (with_reducible refine (HT.out _ hr).mono ?_); rintro e2 w2 ⟨A2, c2, rfl, hb2, hr2, hg2⟩) | (go_at_call 59; (with_reducible refine (clone_calls A2 q c2 _ _ hb2 HQL.out.symm (by have := HQL.out; have := HOK.out; omega)).mono ?_); rintro e w3 ⟨A', c', rfl, hn3⟩))
        go_ret
        refine ⟨A', c', (by rw [HQL.out]; rfl), ?_⟩
        have ho := hn3.own
        rw [← HQL.out] at ho
        exact ⟨ho.mono hg2.size, hr2.new hn3.below, grown_new hg2 hn3.below⟩
  · have hb : ((e : Int) != 0) = true := by rw [bne_iff_ne]; omega
    have hU : rawS P at_ e n = ([], at_, e) := by unfold WireMath.rawS; rw [if_pos he]
    rw [hU]
    clear hU he
    go_enter Try.func73, Try.ntmps73
    go_wp2
    go_ret
    exact ⟨none, 0, rfl, OB.nil _ _ _, hr, grown_refl _ _⟩

/-- `n` as an uint64: what a non-negative int is -/
theorem u64_nat (n : Nat) (h : n ≤ 9223372036854775807) : IntKind.u64.wrap ((n : Nat) : Int) = n := IntWalk.u64_in _ (by omega)

set_option maxRecDepth 100000 in
theorem rblob_calls (base : Nat → Prop) (b : Nat) (P : List UInt8) (at_ e : Nat) (n : Int) (w : World) (hr : Rd w base b P at_ e) (hl : P.length ≤ 140737488355328) (hn : n ≤ 9223372036854775807) :
    Calls Try.prog 74 #[.pointer (some ⟨b, 0, none⟩), .int .i64 n] w fun e' w' => ∃ A' c', e' = .returned (.slice A' (blobS P at_ e n).1.length c') ∧ Got w w' base b P (.slice A' (blobS P at_ e n).1.length c') (blobS P at_ e n) := by
  have hfa := hr.fault
  have h1 := Lib.hid (show (1 : Int) = ((1 : Nat) : Int) from rfl)
  have h2 := Lib.hid (show (2 : Int) = ((2 : Nat) : Int) from rfl)
  have h3 := Lib.hid (show (3 : Int) = ((3 : Nat) : Int) from rfl)
  by_cases he : e = 0
  · subst he
    by_cases hneg : n < 0
    · have hU : blobS P at_ 0 n = ([], at_, 1) := by unfold WireMath.blobS; rw [if_neg (by simp), if_pos hneg]
      rw [hU]
      clear hU
      go_enter Try.func74, Try.ntmps74
      go_wp2_with (go_at_call 61; (with_reducible refine (fail_calls base b P at_ 0 1 _ _ hr h1.out).mono ?_); rintro e2 w3 ⟨rfl, hr3, hg3⟩)
      go_ret
      exact ⟨none, 0, rfl, OB.nil _ _ _, hr3, hg3⟩
    · obtain ⟨m, rfl⟩ := Int.eq_ofNat_of_zero_le (by omega : 0 ≤ n)
      have hg := grpLe P at_ hr.le
      have hgl := WireMath.grpL_lt (P.drop at_)
      have hU : blobS P at_ 0 m = if (grpL (P.drop at_)).2 = 0 then ([], at_, 3) else if (m : Int) < (grpL (P.drop at_)).1 then ([], at_, 2) else
        if P.length - at_ - (grpL (P.drop at_)).2 < (grpL (P.drop at_)).1 then ([], at_, 3) else
        ((P.drop (at_ + (grpL (P.drop at_)).2)).take (grpL (P.drop at_)).1, at_ + (grpL (P.drop at_)).2 + (grpL (P.drop at_)).1, 0) := by
        unfold WireMath.blobS; rw [if_neg (by simp), if_neg hneg]
      have hcall := fun w' (h : Rd w' base b P at_ 0) => group_calls base b P at_ 0 w' h (by omega)
      generalize grpL (P.drop at_) = g at *
      have HC := Lib.hid hcall
      clear hcall
      have hwm : IntKind.u64.wrap (m : Int) = m := u64_nat m (by omega)
      by_cases hn : g.2 = 0
      · rw [hU, if_pos hn]
        have hnb : ((g.2 : Int) == 0) = true := by rw [hn]; rfl
        clear hU hn hneg
        go_enter Try.func74, Try.ntmps74
        go_wp2_with (first | (go_at_call 60; (with_reducible refine (HC.out _ hr).mono ?_); rintro e2 w2 ⟨rfl, hd⟩) | (go_at_call 61; (with_reducible refine (fail_calls base b P at_ 0 3 _ _ (hr.new (hd.below _)) h3.out).mono ?_); rintro e2 w3 ⟨rfl, hr3, hg3⟩))
        go_ret
        exact ⟨none, 0, rfl, OB.nil _ _ _, hr3, grown_trans (grown_drawn hd _) hg3⟩
      · have hnb : ((g.2 : Int) == 0) = false := by rw [beq_eq_false_iff_ne]; omega
        rw [if_neg hn] at hU
        by_cases hlong : m < g.1
        · rw [hU, if_pos (by omega)]
          have hlb : decide ((m : Int) < g.1) = true := by rw [decide_eq_true_iff]; omega
          clear hU hn hneg
          go_enter Try.func74, Try.ntmps74
          go_wp2_with (first | (go_at_call 60; (with_reducible refine (HC.out _ hr).mono ?_); rintro e2 w2 ⟨rfl, hd⟩) | (go_at_call 61; (with_reducible refine (fail_calls base b P at_ 0 2 _ _ (hr.new (hd.below _)) h2.out).mono ?_); rintro e2 w3 ⟨rfl, hr3, hg3⟩))
          go_ret
          exact ⟨none, 0, rfl, OB.nil _ _ _, hr3, grown_trans (grown_drawn hd _) hg3⟩
        · rw [if_neg (by omega)] at hU
          have hlb : decide ((m : Int) < g.1) = false := by rw [decide_eq_false_iff_not]; omega
          have hw1 : IntKind.i64.wrap ((P.length : Int) - at_) = (P.length : Int) - at_ := IntWalk.i64_in _ (by omega)
          have hw2 : IntKind.i64.wrap ((P.length : Int) - at_ - g.2) = (P.length : Int) - at_ - g.2 := IntWalk.i64_in _ (by omega)
          have hw3 : IntKind.u64.wrap ((P.length : Int) - at_ - g.2) = (P.length : Int) - at_ - g.2 := IntWalk.u64_in _ (by omega)
          by_cases hs : P.length - at_ - g.2 < g.1
          · rw [hU, if_pos hs]
            have hsb : decide ((P.length : Int) - at_ - g.2 < g.1) = true := by rw [decide_eq_true_iff]; omega
            clear hU hn hneg
            go_enter Try.func74, Try.ntmps74
            go_wp2_with (first | (go_at_call 60; (with_reducible refine (HC.out _ hr).mono ?_); rintro e2 w2 ⟨rfl, hd⟩; have hr2 := hr.new (hd.below _); have hp2 := hr2.place; have hf2 := hr2.fz 1; obtain ⟨A, c, c1, c2, c3⟩ := hr2.s) | (go_at_call 61; (with_reducible refine (fail_calls base b P at_ 0 3 _ _ (hr.new (hd.below _)) h3.out).mono ?_); rintro e2 w3 ⟨rfl, hr3, hg3⟩))
            go_quiet (fail)
            rename Nat => nq0
            clear hw1 hw2 hw3 hsb hlb
            have hd2 : Below w2.heap.size w2 (w2.drewN nq0) := Drawn.below ⟨nq0, rfl⟩ _
            go_wp2_with (go_at_call 61; (with_reducible refine (fail_calls base b P at_ 0 3 _ _ (hr2.new hd2) h3.out).mono ?_); rintro e2 w3 ⟨rfl, hr3, hg3⟩)
            go_ret
            exact ⟨none, 0, rfl, OB.nil _ _ _, hr3, grown_trans (grown_trans (grown_drawn hd _) (grown_of_below hd2 _)) hg3⟩
          · rw [hU, if_neg hs]
            have hsb : decide ((P.length : Int) - at_ - g.2 < g.1) = false := by rw [decide_eq_false_iff_not]; omega
            have hwv : IntKind.i64.wrap (g.1 : Int) = g.1 := IntWalk.i64_in _ (by omega)
            have hok : at_ + g.2 + g.1 ≤ P.length := by omega
            have hql : ((P.drop (at_ + g.2)).take g.1).length = g.1 := by simp; omega
            have htk := fun w' (h : Rd w' base b P (at_ + g.2) 0) => take_ok base b P (at_ + g.2) g.1 _ rfl w' h hok (by omega)
            generalize hq : (P.drop (at_ + g.2)).take g.1 = q at *
            have HT := Lib.hid htk
            have HQL := Lib.hid hql
            have HOK := Lib.hid hok
            have HG := Lib.hid hg
            clear hU hn hneg hql htk hok hq
            go_enter Try.func74, Try.ntmps74
            go_wp2_with (go_at_call 60; (with_reducible refine (HC.out _ hr).mono ?_); rintro e2 w2 ⟨rfl, hd⟩; have hr2 := hr.new (hd.below _); have hp2 := hr2.place; have hf2 := hr2.fz 1; obtain ⟨A, c, c1, c2, c3⟩ := hr2.s)
            go_quiet (fail)
            rename Nat => nq0
            clear hw1 hw2 hw3 hsb hlb
            have hd2 : Below w2.heap.size w2 (w2.drewN nq0) := Drawn.below ⟨nq0, rfl⟩ _
            have HR3 : Hid (Rd ((w2.drewN nq0).setCell ⟨b, 1, none⟩ (.int .i64 ((at_ : Int) + g.2))) base b P (at_ + g.2) 0) := Lib.hid ((hr2.new hd2).setPlace (at_ + g.2) HG.out)
            go_wp2_with (first | (go_at_call 82; (with_reducible refine (HT.out _ HR3.out).mono ?_); rintro e2 w4 ⟨A2, c4, rfl, hb2, hr4, hg4⟩) | (go_at_call 59; (with_reducible refine (clone_calls A2 q c4 _ _ hb2 HQL.out.symm (by have := HQL.out; have := HOK.out; omega)).mono ?_); rintro e w3 ⟨A', c', rfl, hn3⟩))
            go_ret
            refine ⟨A', c', (by rw [HQL.out]; rfl), ?_⟩
            have ho := hn3.own
            rw [← HQL.out] at ho
            have hG := grown_trans (grown_trans (grown_trans (grown_drawn hd (some b)) (grown_of_below hd2 _)) (setCell_grown _ b 1 _)) hg4
            exact ⟨ho.mono hG.size, hr4.new hn3.below, grown_new hG hn3.below⟩
  · have hb : ((e : Int) != 0) = true := by rw [bne_iff_ne]; omega
    have hU : blobS P at_ e n = ([], at_, e) := by unfold WireMath.blobS; rw [if_pos he]
    rw [hU]
    clear hU he
    go_enter Try.func74, Try.ntmps74
    go_wp2
    go_ret
    exact ⟨none, 0, rfl, OB.nil _ _ _, hr, grown_refl _ _⟩
end Go.Proofs.Ytlcbjjgmkllceaa

/- More on writers and readers: contracts with free numbers; two writers. -/
namespace Go.Proofs.Ytlcbjjgmkllceaa
open Go.RowKit
open WireMath (beN numS grpL grpTo uvarS rawS blobS uvarL wideL)

theorem uvarN (base b : Nat) (row : Option Nat) (p q : List UInt8) (v : Nat) (V : Int) (hV : V = v) (hq : p ++ uvarL v = q) (w : World) (hw : Wr w base b row p) (hv : v ≤ 18446744073709551615) (hl : p.length + 10 ≤ 140737488355328) :
    Calls Try.prog 31 #[.pointer (some ⟨b, 0, none⟩), .int .u64 V] w fun e w' => ∃ row', e = .returned (.tuple #[]) ∧ Wr w' base b row' q ∧ WStep w w' b row row' := by
  subst hV; subst hq; exact uvar_calls base b row p v w hw hv hl
theorem u16N (base b : Nat) (row : Option Nat) (p q : List UInt8) (v : Nat) (V : Int) (hV : V = v) (hq : p ++ wideL v 2 = q) (w : World) (hw : Wr w base b row p) (hv : v ≤ 65535) (hl : p.length + 8 ≤ 140737488355328) :
    Calls Try.prog 32 #[.pointer (some ⟨b, 0, none⟩), .int .u16 V] w fun e w' => ∃ row', e = .returned (.tuple #[]) ∧ Wr w' base b row' q ∧ WStep w w' b row row' := by
  subst hV; subst hq; exact u16_calls base b row p v w hw hv hl
theorem bytesN (base b : Nat) (row : Option Nat) (p : List UInt8) (n : Nat) (hn : n = p.length) (w : World) (hw : Wr w base b row p) (hl : p.length ≤ 140737488355328) :
    Calls Try.prog 33 #[.pointer (some ⟨b, 0, none⟩)] w fun e w' => ∃ A' c', e = .returned (.slice A' n c') ∧ NewB w w' (.slice A' n c') p := by
  subst hn; exact bytes_calls base b row p w hw hl
theorem lenN (base b : Nat) (row : Option Nat) (p : List UInt8) (n : Int) (hn : n = p.length) (w : World) (hw : Wr w base b row p) :
    Calls Try.prog 34 #[.pointer (some ⟨b, 0, none⟩)] w fun e w' => e = .returned (.int .i64 n) ∧ w = w' := by
  subst hn; exact len_calls base b row p w hw
theorem ruvarN (base : Nat → Prop) (b : Nat) (P : List UInt8) (at_ e : Nat) (v : Int) (a2 e2 : Nat) (hv : v = (uvarS P at_ e).1) (ha : (uvarS P at_ e).2.1 = a2) (he : (uvarS P at_ e).2.2 = e2) (w : World) (hr : Rd w base b P at_ e) (hl : P.length ≤ 9223372036854775807) :
    Calls Try.prog 36 #[.pointer (some ⟨b, 0, none⟩)] w fun e' w' => e' = .returned (.int .u64 v) ∧ Rd w' base b P a2 e2 ∧ w.grownBy w' (some b) := by
  subst hv; subst ha; subst he; exact ruvar_calls base b P at_ e w hr hl
theorem ru8N (base : Nat → Prop) (b : Nat) (P : List UInt8) (at_ e : Nat) (v : Int) (a2 e2 : Nat) (hv : v = (numS P at_ e 1).1) (ha : (numS P at_ e 1).2.1 = a2) (he : (numS P at_ e 1).2.2 = e2) (w : World) (hr : Rd w base b P at_ e) (hl : P.length ≤ 9223372036854775807) :
    Calls Try.prog 40 #[.pointer (some ⟨b, 0, none⟩)] w fun e' w' => e' = .returned (.int .u8 v) ∧ Rd w' base b P a2 e2 ∧ w.grownBy w' (some b) := by
  subst hv; subst ha; subst he; exact ru8_calls base b P at_ e w hr hl
theorem atN (base : Nat → Prop) (b : Nat) (P : List UInt8) (at_ e : Nat) (n : Int) (hn : n = at_) (w : World) (hr : Rd w base b P at_ e) :
    Calls Try.prog 37 #[.pointer (some ⟨b, 0, none⟩)] w fun e' w' => e' = .returned (.int .i64 n) ∧ w = w' := by
  subst hn; exact at_calls base b P at_ e w hr
theorem errN (base : Nat → Prop) (b : Nat) (P : List UInt8) (at_ e : Nat) (n : Int) (hn : n = e) (w : World) (hr : Rd w base b P at_ e) :
    Calls Try.prog 38 #[.pointer (some ⟨b, 0, none⟩)] w fun e' w' => e' = .returned (.int .i64 n) ∧ w = w' := by
  subst hn; exact err_calls base b P at_ e w hr
theorem doneN (base : Nat → Prop) (b : Nat) (P : List UInt8) (at_ e : Nat) (n : Int) (hn : n = doneE P at_ e) (w : World) (hr : Rd w base b P at_ e) :
    Calls Try.prog 39 #[.pointer (some ⟨b, 0, none⟩)] w fun e' w' => e' = .returned (.int .i64 n) ∧ Drawn w w' := by
  subst hn; exact done_calls base b P at_ e w hr

theorem OB.rb {w : World} {base e n c : Nat} {A : Option Addr} {p : List UInt8} (h : OB w base e (.slice A n c) p) : RB w A c p := by
  obtain ⟨A', c', e', hr⟩ := h.form
  injection e' with e1 e2 e3; subst e1; subst e3; exact hr
theorem RB.alloc {w : World} {A : Option Addr} {c : Nat} {p : List UInt8} (h : RB w A c p) (o : Obj) : RB (w.alloc o) A c p := h.new (below_alloc1 (Below.refl _ _) (Nat.le_refl _) o)

theorem below_then {w0 w w' : World} (h : Below w0.heap.size w0 w) (k : Below w.heap.size w w') : Below w0.heap.size w0 w' := h.trans (k.mono h.size)
theorem below_reader {w0 w w' : World} {b : Nat} (h : Below w0.heap.size w0 w) (hg : w.grownBy w' (some b)) (hb : w0.heap.size ≤ b) : Below w0.heap.size w0 w' := h.grown hg h.size fun k e => by cases e; exact hb
theorem below_writer {w0 w w' : World} {b : Nat} {r r' : Option Nat} {p : List UInt8} (h : Below w0.heap.size w0 w) (hs : WStep w w' b r r') (hw : Wr w w0.heap.size b r p) : Below w0.heap.size w0 w' := h.trans (hs.below hw)

theorem u8N (base b : Nat) (row : Option Nat) (p q : List UInt8) (v : Nat) (V : Int) (hV : V = v) (hq : p ++ [UInt8.ofNat v] = q) (w : World) (hw : Wr w base b row p) (hv : v ≤ 255) (hl : p.length + 8 ≤ 140737488355328) :
    Calls Try.prog 67 #[.pointer (some ⟨b, 0, none⟩), .int .u8 V] w fun e w' => ∃ row', e = .returned (.tuple #[]) ∧ Wr w' base b row' q ∧ WStep w w' b row row' := by
  subst hV; subst hq; exact u8_calls base b row p v w hw hv hl
theorem u32N (base b : Nat) (row : Option Nat) (p q : List UInt8) (v : Nat) (V : Int) (hV : V = v) (hq : p ++ wideL v 4 = q) (w : World) (hw : Wr w base b row p) (hv : v ≤ 4294967295) (hl : p.length + 8 ≤ 140737488355328) :
    Calls Try.prog 68 #[.pointer (some ⟨b, 0, none⟩), .int .u32 V] w fun e w' => ∃ row', e = .returned (.tuple #[]) ∧ Wr w' base b row' q ∧ WStep w w' b row row' := by
  subst hV; subst hq; exact u32_calls base b row p v w hw hv hl
theorem u64N (base b : Nat) (row : Option Nat) (p q : List UInt8) (v : Nat) (V : Int) (hV : V = v) (hq : p ++ wideL v 8 = q) (w : World) (hw : Wr w base b row p) (hv : v ≤ 18446744073709551615) (hl : p.length + 8 ≤ 140737488355328) :
    Calls Try.prog 69 #[.pointer (some ⟨b, 0, none⟩), .int .u64 V] w fun e w' => ∃ row', e = .returned (.tuple #[]) ∧ Wr w' base b row' q ∧ WStep w w' b row row' := by
  subst hV; subst hq; exact u64_calls base b row p v w hw hv hl
theorem rawN (base b : Nat) (row : Option Nat) (p : List UInt8) (A : Option Addr) (q r : List UInt8) (n c : Nat) (hr : p ++ q = r) (w : World) (hw : Wr w base b row p) (hq : RB w A c q) (hn : n = q.length) (hl : p.length + q.length ≤ 140737488355328) :
    Calls Try.prog 70 #[.pointer (some ⟨b, 0, none⟩), .slice A n c] w fun e w' => ∃ row', e = .returned (.tuple #[]) ∧ Wr w' base b row' r ∧ WStep w w' b row row' := by
  subst hr; exact raw_calls base b row p A q n c w hw hq hn hl

/-- two writers that share nothing -/
structure Two (w : World) (base b1 b2 : Nat) (r1 r2 : Option Nat) (p q : List UInt8) : Prop where
  one : Wr w base b1 r1 p
  two : Wr w base b2 r2 q
  ne : b1 ≠ b2
  x1 : r1 ≠ some b2
  x2 : r2 ≠ some b1
  xr : r2 = none ∨ r2 ≠ r1
theorem Two.swap {w : World} {base b1 b2 : Nat} {r1 r2 : Option Nat} {p q : List UInt8} (h : Two w base b1 b2 r1 r2 p q) : Two w base b2 b1 r2 r1 q p :=
  ⟨h.two, h.one, h.ne.symm, h.x2, h.x1, by
    rcases h.xr with e | e
    · cases r1 with
      | none => exact .inl rfl
      | some k => exact .inr (by rw [e]; simp)
    · exact .inr e.symm⟩
theorem Two.first {w w' : World} {base b1 b2 : Nat} {r1 r2 r1' : Option Nat} {p q p' : List UInt8} (h : Two w base b1 b2 r1 r2 p q) (hw : Wr w' base b1 r1' p') (hs : WStep w w' b1 r1 r1') : Two w' base b1 b2 r1' r2 p' q := by
  refine ⟨hw, h.two.other hs h.ne.symm h.x1 h.x2 h.xr, h.ne, ?_, h.x2, ?_⟩
  · rcases hs.row' with e | ⟨k, e, hk⟩
    · rw [e]; exact h.x1
    · rw [e]
      have := h.two.bLt
      intro e2
      have := Option.some.inj e2
      omega
  · rcases hs.row' with e | ⟨k, e, hk⟩
    · rw [e]; exact h.xr
    · rw [e]
      by_cases hn : r2 = none
      · exact .inl hn
      · refine .inr fun e2 => ?_
        have := (h.two.rowLo k e2).2
        omega
theorem Two.second {w w' : World} {base b1 b2 : Nat} {r1 r2 r2' : Option Nat} {p q q' : List UInt8} (h : Two w base b1 b2 r1 r2 p q) (hw : Wr w' base b2 r2' q') (hs : WStep w w' b2 r2 r2') : Two w' base b1 b2 r1 r2' p q' := (h.swap.first hw hs).swap
theorem Two.new {w w' : World} {base b1 b2 : Nat} {r1 r2 : Option Nat} {p q : List UInt8} (h : Two w base b1 b2 r1 r2 p q) (hb : Below w.heap.size w w') : Two w' base b1 b2 r1 r2 p q := ⟨h.one.new hb, h.two.new hb, h.ne, h.x1, h.x2, h.xr⟩
theorem Two.fresh (w : World) (t : TypeId) (k : Nat) (hk : w.heap.size = k) : Two ((w.alloc (.cells #[.slice none 0 0] t)).alloc (.cells #[.slice none 0 0] t)) k k (k + 1) none none [] [] := by
  subst hk
  have hs : (w.alloc (.cells #[.slice none 0 0] t)).heap.size = w.heap.size + 1 := Array.size_push ..
  have h2 := Wr.fresh (w.alloc (.cells #[.slice none 0 0] t)) w.heap.size (by omega) t
  rw [hs] at h2
  exact ⟨(Wr.fresh w _ (Nat.le_refl _) t).new (below_alloc1 (Below.refl _ _) (Nat.le_refl _) _), h2, by omega, by simp, by simp, .inl rfl⟩
end Go.Proofs.Ytlcbjjgmkllceaa
