/- Plain facts on words of 32 bits: the turn of CRC-32C, its linearity, the reversed form, products of remainders. No program stands here. -/
import GoSem.Claim
namespace Go.Proofs.Ytelecdncdaepnaa.CrcMath

abbrev W := BitVec 32

/-- f done n times. -/
def it {α : Type} (f : α → α) : Nat → α → α
  | 0, a => a
  | n + 1, a => f (it f n a)

theorem it_add {α : Type} (f : α → α) (m n : Nat) (a : α) : it f (m + n) a = it f m (it f n a) := by
  induction m with
  | zero => simp [it]
  | succ m ih => rw [Nat.succ_add]; simp only [it, ih]

theorem it_mul {α : Type} (f : α → α) (m n : Nat) (a : α) : it f (m * n) a = it (it f n) m a := by
  induction m with
  | zero => simp [it]
  | succ m ih => rw [Nat.succ_mul, Nat.add_comm, it_add, ih]; rfl

theorem it_comm {α : Type} (f : α → α) (m n : Nat) (a : α) : it f m (it f n a) = it f n (it f m a) := by
  rw [← it_add, ← it_add, Nat.add_comm]

def Lin (f : W → W) : Prop := ∀ a b, f (a ^^^ b) = f a ^^^ f b

theorem Lin.zero {f : W → W} (h : Lin f) : f 0 = 0 := by
  have := h 0 0
  simpa using this

theorem Lin.comp {f g : W → W} (hf : Lin f) (hg : Lin g) : Lin (fun x => f (g x)) := fun a b => by
  show f (g (a ^^^ b)) = f (g a) ^^^ f (g b)
  rw [hg a b, hf]
theorem Lin.it {f : W → W} (hf : Lin f) : ∀ n, Lin (it f n)
  | 0 => fun _ _ => rfl
  | n + 1 => fun a b => by simp only [CrcMath.it, Lin.it hf n a b, hf _ _]
theorem Lin.xor {f g : W → W} (hf : Lin f) (hg : Lin g) : Lin (fun x => f x ^^^ g x) := fun a b => by
  simp only [hf a b, hg a b]
  ac_rfl
theorem lin_zero : Lin (fun _ => 0) := fun _ _ => by simp

/-- the word whose one bit is i -/
def unit (i : Nat) : W := (1 : W) <<< i
/-- the lowest n bits -/
def low (c : W) (n : Nat) : W := BitVec.ofNat 32 (c.toNat % 2 ^ n)

theorem low_zero (c : W) : low c 0 = 0 := by simp [low, Nat.mod_one]
theorem low_all (c : W) : low c 32 = c := by
  apply BitVec.eq_of_toNat_eq
  simp [low, Nat.mod_eq_of_lt c.isLt]
theorem low_bit (c : W) (n i : Nat) : (low c n).getLsbD i = (decide (i < n) && c.getLsbD i) := by
  simp only [low, BitVec.getLsbD_ofNat, Nat.testBit_mod_two_pow]
  by_cases h : i < 32
  · simp [h, BitVec.getLsbD]
  · simp only [h, decide_false, Bool.false_and]
    rw [BitVec.getLsbD_of_ge c i (by omega)]; simp
theorem unit_bit (n i : Nat) : (unit n).getLsbD i = (decide (i < 32) && decide (i = n)) := by
  unfold unit
  rw [BitVec.getLsbD_shiftLeft, show (1 : W) = 1#32 from rfl, BitVec.getLsbD_one]
  by_cases h1 : i < 32 <;> by_cases h2 : i = n
  · subst h2; simp [h1]
  · by_cases h3 : i < n
    · simp [h1, h2, h3]
    · have : i - n ≠ 0 := by omega
      simp [h1, h2, h3]; omega
  · simp [h1]
  · simp [h1]
theorem zero_bit (i : Nat) : (0 : W).getLsbD i = false := by show (0#32).getLsbD i = false; simp
theorem low_succ (c : W) (n : Nat) : low c (n + 1) = low c n ^^^ (if c.getLsbD n then unit n else 0) := by
  apply BitVec.eq_of_getLsbD_eq
  intro i hi
  rw [BitVec.getLsbD_xor, low_bit, low_bit]
  by_cases e : i = n
  · subst e
    cases hc : c.getLsbD i
    · rw [if_neg (by decide)]; rw [zero_bit]; simp only [Bool.and_false, Bool.xor_false]
    · rw [if_pos rfl, unit_bit]; simp only [hi, Nat.lt_irrefl, Nat.lt_succ_self, decide_true, decide_false, Bool.and_self, Bool.false_and, Bool.false_xor]
  · have : decide (i < n + 1) = decide (i < n) := by simp; omega
    rw [this]
    cases hc : c.getLsbD n
    · rw [if_neg (by decide), zero_bit, Bool.xor_false]
    · rw [if_pos rfl, unit_bit]; simp only [e, decide_false, Bool.and_false, Bool.xor_false]

/-- what a table of 32 words makes of c, by its lowest n bits -/
def ofTo (m : Nat → W) (c : W) : Nat → W
  | 0 => 0
  | n + 1 => if c.getLsbD n then ofTo m c n ^^^ m n else ofTo m c n

theorem ofTo_low {f : W → W} (h : Lin f) (m : Nat → W) (c : W) (N : Nat) (hm : ∀ i, i < N → m i = f (unit i)) : ∀ n, n ≤ N → ofTo m c n = f (low c n)
  | 0, _ => by rw [low_zero]; exact h.zero.symm
  | n + 1, hn => by
    rw [low_succ, h]
    simp only [ofTo, ofTo_low h m c N hm n (by omega)]
    split
    · rw [hm n (by omega)]
    · rw [h.zero]; simp
theorem ofTo_all {f : W → W} (h : Lin f) (m : Nat → W) (c : W) (hm : ∀ i, i < 32 → m i = f (unit i)) : ofTo m c 32 = f c := by
  rw [ofTo_low h m c 32 hm 32 (Nat.le_refl _), low_all]

theorem Lin.ext {f g : W → W} (hf : Lin f) (hg : Lin g) (h : ∀ i, i < 32 → f (unit i) = g (unit i)) (c : W) : f c = g c := by
  rw [← ofTo_all hf (fun i => f (unit i)) c (fun _ _ => rfl), ofTo_all hg (fun i => f (unit i)) c h]

/-- the turn -/
def turn (c : W) : W := if c.getLsbD 0 then (c >>> 1) ^^^ 0x82f63b78#32 else c >>> 1
theorem lin_shr : Lin (fun c => c >>> 1) := fun a b => by simp only [BitVec.ushiftRight_xor_distrib]
theorem lin_bit (n : Nat) (k : W) : Lin (fun c => if c.getLsbD n then k else 0) := fun a b => by
  simp only [BitVec.getLsbD_xor]
  cases a.getLsbD n <;> cases b.getLsbD n <;> simp
theorem turn_eq (c : W) : turn c = (c >>> 1) ^^^ (if c.getLsbD 0 then 0x82f63b78#32 else 0) := by
  unfold turn; split <;> simp
theorem lin_turn : Lin turn := by
  have h := Lin.xor lin_shr (lin_bit 0 0x82f63b78#32)
  intro a b
  simp only [turn_eq]
  exact h a b
/-- eight turns -/
def Z (c : W) : W := it turn 8 c
theorem lin_Z : Lin Z := lin_turn.it 8

theorem turn_zero {c : W} (h : turn c = 0) : c = 0 := by
  unfold turn at h
  split at h
  · rename_i hb
    have := congrArg (fun x : W => x.getLsbD 31) h
    replace this : (c >>> 1 ^^^ 0x82f63b78#32).getLsbD 31 = (0 : W).getLsbD 31 := this
    rw [BitVec.getLsbD_xor, BitVec.getLsbD_ushiftRight, BitVec.getLsbD_of_ge c (1 + 31) (by decide)] at this
    exact absurd this (by decide)
  · rename_i hb
    apply BitVec.eq_of_getLsbD_eq
    intro i hi
    cases i with
    | zero => simpa using hb
    | succ i =>
      have := congrArg (fun x : W => x.getLsbD i) h
      simp only [BitVec.getLsbD_ushiftRight] at this
      rw [Nat.add_comm] at this
      simpa using this
theorem it_turn_zero : ∀ (n : Nat) {c : W}, it turn n c = 0 → c = 0
  | 0, _, h => h
  | n + 1, _, h => it_turn_zero n (turn_zero h)
theorem Z_zero {c : W} (h : Z c = 0) : c = 0 := it_turn_zero 8 h

/-- the register for bytes -/
def reg (x : W) (p : List W) : W := p.foldl (fun x v => Z (x ^^^ v)) x
theorem reg_nil (x : W) : reg x [] = x := rfl
theorem reg_cons (x v : W) (p : List W) : reg x (v :: p) = reg (Z (x ^^^ v)) p := rfl
theorem reg_append (x : W) (p q : List W) : reg x (p ++ q) = reg (reg x p) q := by simp [reg, List.foldl_append]
theorem reg_snoc (x v : W) (p : List W) : reg x (p ++ [v]) = Z (reg x p ^^^ v) := by simp [reg, List.foldl_append]
theorem reg_xor (x y : W) (p : List W) : reg (x ^^^ y) p = it Z p.length x ^^^ reg y p := by
  induction p generalizing x y with
  | nil => rfl
  | cons v p ih =>
    rw [reg_cons, reg_cons, show x ^^^ y ^^^ v = x ^^^ (y ^^^ v) by ac_rfl, lin_Z, ih, List.length_cons, it_add]
    rfl

/-- Update -/
def upd (c : W) (p : List W) : W := ~~~ (reg (~~~ c) p)
def sum (p : List W) : W := upd 0 p
/-- Join -/
def joinN (a b : W) (n : Nat) : W := it Z n a ^^^ b

theorem not_eq (c : W) : ~~~ c = c ^^^ BitVec.allOnes 32 := by
  rw [BitVec.xor_allOnes]
theorem upd_nil (c : W) : upd c [] = c := by simp [upd, reg_nil]
theorem upd_append (c : W) (p q : List W) : upd c (p ++ q) = upd (upd c p) q := by simp [upd, reg_append]
theorem joinN_upd (c : W) (q : List W) : joinN c (sum q) q.length = upd c q := by
  unfold joinN sum upd
  rw [show ~~~ c = c ^^^ ~~~ (0 : W) by rw [not_eq, not_eq]; simp, reg_xor, not_eq, not_eq (it Z q.length c ^^^ _)]
  ac_rfl
theorem joinN_nest (a b c : W) (m n : Nat) : joinN (joinN a b m) c n = joinN a (joinN b c n) (m + n) := by
  unfold joinN
  rw [lin_Z.it n, Nat.add_comm, it_add]
  ac_rfl

/-- one round of Join: n' in halves -/
theorem it_half (G : W → W) (n : Nat) (x : W) : it (fun x => G (G x)) (n / 2) (it G (n % 2) x) = it G n x := by
  have h2 : ∀ m y, it (fun x => G (G x)) m y = it G (m * 2) y := by
    intro m y
    rw [it_mul]; rfl
  rw [h2, ← it_add]
  congr 1
  omega
theorem it_even (G : W → W) (n : Nat) (x : W) (h : n % 2 = 0) : it (fun x => G (G x)) (n / 2) x = it G n x := by
  have := it_half G n x
  rw [h] at this
  exact this
theorem it_odd (G : W → W) (n : Nat) (x : W) (h : n % 2 = 1) : it (fun x => G (G x)) (n / 2) (G x) = it G n x := by
  have := it_half G n x
  rw [h] at this
  exact this
theorem lin_twice {G : W → W} (h : Lin G) : Lin (fun x => G (G x)) := h.comp h
theorem ofTo_unit {G : W → W} (h : Lin G) (x : W) : ofTo (fun i => G (unit i)) x 32 = G x := ofTo_all h _ x (fun _ _ => rfl)

/-! ### The other way round -/
def double (r : W) : W := if r.getLsbD 31 then (r <<< 1) ^^^ 0x1EDC6F41#32 else r <<< 1
theorem lin_shl : Lin (fun c => c <<< 1) := fun a b => by simp only [BitVec.shiftLeft_xor_distrib]
theorem double_eq (c : W) : double c = (c <<< 1) ^^^ (if c.getLsbD 31 then 0x1EDC6F41#32 else 0) := by
  unfold double; split <;> simp
theorem lin_double : Lin double := by
  have h := Lin.xor lin_shl (lin_bit 31 0x1EDC6F41#32)
  intro a b
  simp only [double_eq]
  exact h a b

def revTo (c : W) : Nat → W
  | 0 => 0
  | n + 1 => (revTo c n <<< 1) ^^^ (if c.getLsbD n then 1 else 0)
def rev (c : W) : W := revTo c 32
theorem lin_revTo : ∀ n, Lin (fun c => revTo c n)
  | 0 => fun _ _ => by simp [revTo]
  | n + 1 => by
    have h := Lin.xor (lin_shl.comp (lin_revTo n)) (lin_bit n 1)
    exact h
theorem lin_rev : Lin rev := lin_revTo 32
theorem lin_id : Lin (fun c => c) := fun _ _ => rfl
theorem rev_rev (c : W) : rev (rev c) = c := Lin.ext (lin_rev.comp lin_rev) lin_id (by decide +kernel) c
theorem rev_turn (c : W) : rev (turn c) = double (rev c) := Lin.ext (lin_rev.comp lin_turn) (lin_double.comp lin_rev) (by decide +kernel) c
theorem rev_it (n : Nat) (c : W) : rev (it turn n c) = it double n (rev c) := by
  induction n with
  | zero => rfl
  | succ n ih => simp only [it, rev_turn, ih]
theorem rev_unit0 : rev (unit 0) = unit 31 := by decide +kernel
theorem it_turn_unit : ∀ n, n < 32 → it turn n (unit n) = unit 0 := by decide +kernel

/-- a byte's bits, one after another -/
def bitsTo (r v : W) : Nat → W
  | 0 => r
  | n + 1 => double (bitsTo r v n ^^^ (if v.getLsbD n then unit 31 else 0))
theorem bitsTo_next (r v : W) (n : Nat) : bitsTo r v (n + 1) = double (bitsTo r v n ^^^ (if v.getLsbD n then unit 31 else 0)) := rfl
theorem bitsTo_rev (c v : W) : ∀ n, n ≤ 32 → bitsTo (rev c) v n = rev (it turn n (c ^^^ low v n))
  | 0, _ => by simp [bitsTo, it, low_zero]
  | n + 1, h => by
    have e1 : (if v.getLsbD n then unit 31 else 0) = rev (it turn n (if v.getLsbD n then unit n else 0)) := by
      split
      · rw [it_turn_unit n (by omega), rev_unit0]
      · rw [(lin_turn.it n).zero, lin_rev.zero]
    simp only [bitsTo, bitsTo_rev c v n (by omega)]
    rw [e1, ← lin_rev, ← lin_turn.it n, ← rev_turn, low_succ, BitVec.xor_assoc]
    rfl
theorem low_small (v : W) (n : Nat) (h : v.toNat < 2 ^ n) : low v n = v := by
  apply BitVec.eq_of_toNat_eq
  simp [low, Nat.mod_eq_of_lt h]
def refReg (r : W) (p : List W) : W := p.foldl (fun r v => bitsTo r v 8) r
theorem refReg_nil (r : W) : refReg r [] = r := rfl
theorem bitsTo_zero (r v : W) : bitsTo r v 0 = r := rfl
theorem refReg_rev (c : W) (p : List W) (h : ∀ v ∈ p, v.toNat < 256) : refReg (rev c) p = rev (reg c p) := by
  induction p generalizing c with
  | nil => rfl
  | cons v p ih =>
    show refReg (bitsTo (rev c) v 8) p = rev (reg (Z (c ^^^ v)) p)
    rw [bitsTo_rev c v 8 (by decide), low_small v 8 (h v (by simp)), show it turn 8 (c ^^^ v) = Z (c ^^^ v) from rfl, ih _ (fun u hu => h u (List.mem_cons_of_mem _ hu))]
def refUpd (c : W) (p : List W) : W := ~~~ (rev (refReg (rev (~~~ c)) p))
theorem refUpd_eq (c : W) (p : List W) (h : ∀ v ∈ p, v.toNat < 256) : refUpd c p = upd c p := by
  unfold refUpd upd
  rw [refReg_rev _ _ h, rev_rev]

/-- the product of two remainders, from the top bit on -/
def timesTo (a b : W) : Nat → W
  | 0 => 0
  | k + 1 => double (timesTo a b k) ^^^ (if b.getLsbD (31 - k) then a else 0)
theorem timesTo_next (a b : W) (k : Nat) : timesTo a b (k + 1) = double (timesTo a b k) ^^^ (if b.getLsbD (31 - k) then a else 0) := rfl
def times (a b : W) : W := timesTo a b 32
theorem lin_timesTo_b (a : W) : ∀ k, Lin (fun b => timesTo a b k)
  | 0 => fun _ _ => by simp [timesTo]
  | k + 1 => by
    have h := Lin.xor (lin_double.comp (lin_timesTo_b a k)) (lin_bit (31 - k) a)
    exact h
theorem lin_times_b (a : W) : Lin (times a) := lin_timesTo_b a 32
theorem lin_timesTo_a (b : W) : ∀ k, Lin (fun a => timesTo a b k)
  | 0 => fun _ _ => by simp [timesTo]
  | k + 1 => by
    have h1 : Lin (fun a : W => if b.getLsbD (31 - k) then a else 0) := fun x y => by split <;> simp
    have h := Lin.xor (lin_double.comp (lin_timesTo_a b k)) h1
    exact h
theorem lin_times_a (b : W) : Lin (fun a => times a b) := lin_timesTo_a b 32
theorem timesTo_unit (a : W) (j : Nat) (hj : j < 32) : ∀ k, k ≤ 32 → timesTo a (unit j) k = if k < 32 - j then 0 else it double (k - (32 - j)) a
  | 0, _ => by rw [if_pos (by omega)]; rfl
  | k + 1, h => by
    have ih := timesTo_unit a j hj k (by omega)
    show double (timesTo a (unit j) k) ^^^ (if (unit j).getLsbD (31 - k) then a else 0) = _
    rw [ih, unit_bit]
    by_cases e : 31 - k = j
    · have c1 : (decide (31 - k < 32) && decide (31 - k = j)) = true := by
        rw [Bool.and_eq_true, decide_eq_true_eq, decide_eq_true_eq]; omega
      rw [c1, if_pos rfl, if_pos (show k < 32 - j by omega), lin_double.zero, if_neg (show ¬ k + 1 < 32 - j by omega), show k + 1 - (32 - j) = 0 by omega]
      simp [it]
    · have c1 : (decide (31 - k < 32) && decide (31 - k = j)) = false := by simp [e]
      rw [c1, if_neg (show ¬ (false = true) by decide)]
      by_cases h2 : k < 32 - j
      · rw [if_pos h2, if_pos (show k + 1 < 32 - j by omega), lin_double.zero]
        simp
      · rw [if_neg h2, if_neg (show ¬ k + 1 < 32 - j by omega), show k + 1 - (32 - j) = (k - (32 - j)) + 1 by omega]
        simp [it]
theorem times_unit (a : W) (j : Nat) (hj : j < 32) : times a (unit j) = it double j a := by
  unfold times
  rw [timesTo_unit a j hj 32 (Nat.le_refl _), if_neg (by omega), show 32 - (32 - j) = j by omega]
theorem times_poly (a : W) : times a 0x1EDC6F41#32 = it double 32 a := Lin.ext (lin_times_a _) (lin_double.it 32) (by decide +kernel) a
theorem double_unit : ∀ j, j < 31 → double (unit j) = unit (j + 1) := by decide +kernel
theorem double_top : double (unit 31) = 0x1EDC6F41#32 := by decide +kernel
theorem times_double (a b : W) : times a (double b) = double (times a b) := by
  refine Lin.ext ((lin_times_b a).comp lin_double) (lin_double.comp (lin_times_b a)) (fun i hi => ?_) b
  by_cases h : i < 31
  · rw [double_unit i h, times_unit a _ (by omega), times_unit a _ (by omega)]; rfl
  · obtain rfl : i = 31 := by omega
    rw [double_top, times_poly, times_unit a _ (by omega)]; rfl
theorem times_it (a b : W) (m : Nat) : times a (it double m b) = it double m (times a b) := by
  induction m with
  | zero => rfl
  | succ m ih => simp only [it, times_double, ih]
/-- u stands for so many doublings -/
def Acts (u : W) (m : Nat) : Prop := ∀ a, times a u = it double m a
theorem Acts.twice {u : W} {m : Nat} (h : Acts u m) : Acts (times u u) (m + m) := fun a => by
  rw [h u, times_it, h a, it_add]
theorem acts_unit : Acts (unit 8) 8 := fun a => times_unit a 8 (by decide)
theorem rev_join (a : W) (n : Nat) : rev (it (it double 8) n (rev a)) = it Z n a := by
  rw [← it_mul, ← rev_it, rev_rev, it_mul]; rfl

/-! ### Lists laid over one another -/
def lay (p q : List W) : List W := List.zipWith (· ^^^ ·) p q
theorem reg_lay (a b : W) : ∀ (p q : List W), p.length = q.length → reg a p ^^^ reg b q = reg (a ^^^ b) (lay p q)
  | [], [], _ => rfl
  | x :: p, y :: q, h => by
    have h' : p.length = q.length := by simpa using h
    show reg (Z (a ^^^ x)) p ^^^ reg (Z (b ^^^ y)) q = reg (Z (a ^^^ b ^^^ (x ^^^ y))) (lay p q)
    rw [reg_lay _ _ p q h', ← lin_Z, show a ^^^ x ^^^ (b ^^^ y) = a ^^^ b ^^^ (x ^^^ y) by ac_rfl]
  | [], _ :: _, h => absurd h (by simp)
  | _ :: _, [], h => absurd h (by simp)
theorem Z_zero0 : Z 0 = 0 := lin_Z.zero
theorem reg_zeros (n : Nat) (c : W) : reg c (List.replicate n 0) = it Z n c := by
  induction n generalizing c with
  | zero => rfl
  | succ n ih =>
    rw [List.replicate_succ, reg_cons, ih, show c ^^^ (0 : W) = c by simp, show it Z n (Z c) = it Z (n + 1) c by rw [it_add]; rfl]
theorem it_Z_zero (n : Nat) {c : W} (h : it Z n c = 0) : c = 0 := by
  induction n generalizing c with
  | zero => exact h
  | succ n ih => exact ih (Z_zero h)
theorem it_Z_of_zero (n : Nat) : it Z n 0 = 0 := (lin_Z.it n).zero
theorem lin_and (k : W) : Lin (fun c => c &&& k) := fun a b => by
  apply BitVec.eq_of_getLsbD_eq
  intro i hi
  simp only [BitVec.getLsbD_and, BitVec.getLsbD_xor]
  cases a.getLsbD i <;> cases b.getLsbD i <;> simp
theorem lin_shl_n (n : Nat) : Lin (fun c => c <<< n) := fun a b => by simp only [BitVec.shiftLeft_xor_distrib]
theorem byte_and (v : W) (h : v.toNat < 256) : v &&& 255 = v := by
  apply BitVec.eq_of_toNat_eq
  rw [BitVec.toNat_and, show (255 : W).toNat = 2 ^ 8 - 1 from rfl, Nat.and_two_pow_sub_one_eq_mod]
  omega
theorem byte_up1 (v : W) (h : v.toNat < 256) : it Z 1 (v <<< 8) = v := by
  have := Lin.ext (((lin_Z.it 1).comp (lin_shl_n 8)).comp (lin_and 255)) (lin_and 255) (by decide +kernel) v
  rwa [byte_and v h] at this
theorem byte_up2 (v : W) (h : v.toNat < 256) : it Z 2 (v <<< 16) = v := by
  have := Lin.ext (((lin_Z.it 2).comp (lin_shl_n 16)).comp (lin_and 255)) (lin_and 255) (by decide +kernel) v
  rwa [byte_and v h] at this
theorem byte_up3 (v : W) (h : v.toNat < 256) : it Z 3 (v <<< 24) = v := by
  have := Lin.ext (((lin_Z.it 3).comp (lin_shl_n 24)).comp (lin_and 255)) (lin_and 255) (by decide +kernel) v
  rwa [byte_and v h] at this
theorem reg_four (a b c d : W) (hb : b.toNat < 256) (hc : c.toNat < 256) (hd : d.toNat < 256) : reg 0 [a, b, c, d] = it Z 4 (a ^^^ (b <<< 8) ^^^ (c <<< 16) ^^^ (d <<< 24)) := by
  show Z (Z (Z (Z (0 ^^^ a) ^^^ b) ^^^ c) ^^^ d) = _
  rw [show (0 : W) ^^^ a = a by simp]
  have e1 : Z a ^^^ b = it Z 1 (a ^^^ (b <<< 8)) := by rw [lin_Z.it 1, byte_up1 b hb]; rfl
  have e2 : Z (it Z 1 (a ^^^ (b <<< 8))) ^^^ c = it Z 2 (a ^^^ (b <<< 8) ^^^ (c <<< 16)) := by rw [(lin_Z.it 2) _ (c <<< 16), byte_up2 c hc]; rfl
  have e3 : Z (it Z 2 (a ^^^ (b <<< 8) ^^^ (c <<< 16))) ^^^ d = it Z 3 (a ^^^ (b <<< 8) ^^^ (c <<< 16) ^^^ (d <<< 24)) := by rw [(lin_Z.it 3) _ (d <<< 24), byte_up3 d hd]; rfl
  rw [e1, e2, e3]; rfl
theorem bytes_zero (a b c d : W) (ha : a.toNat < 256) (hb : b.toNat < 256) (hc : c.toNat < 256) (hd : d.toNat < 256) (h : a ^^^ (b <<< 8) ^^^ (c <<< 16) ^^^ (d <<< 24) = 0) : a = 0 ∧ b = 0 ∧ c = 0 ∧ d = 0 := by
  have big : ∀ (x : W), x.toNat < 256 → ∀ i, 8 ≤ i → x.getLsbD i = false := by
    intro x hx i hi
    rw [BitVec.getLsbD, Nat.testBit_lt_two_pow (Nat.lt_of_lt_of_le hx (Nat.pow_le_pow_right (n := 2) (by decide) hi))]
  have hbit : ∀ i, (((a.getLsbD i ^^ (decide (i < 32) && !decide (i < 8) && b.getLsbD (i - 8))) ^^ (decide (i < 32) && !decide (i < 16) && c.getLsbD (i - 16))) ^^ (decide (i < 32) && !decide (i < 24) && d.getLsbD (i - 24))) = false := by
    intro i
    have := congrArg (fun x : W => x.getLsbD i) h
    simp only [BitVec.getLsbD_xor, BitVec.getLsbD_shiftLeft, zero_bit] at this
    exact this
  have out : ∀ (x : W), x.toNat < 256 → (∀ i, i < 8 → x.getLsbD i = false) → x = 0 := by
    intro x hx h8
    apply BitVec.eq_of_getLsbD_eq
    intro i hi
    rw [zero_bit]
    by_cases h9 : i < 8
    · exact h8 i h9
    · exact big x hx i (by omega)
  refine ⟨out a ha fun i hi => ?_, out b hb fun i hi => ?_, out c hc fun i hi => ?_, out d hd fun i hi => ?_⟩
  · have := hbit i
    simpa [show i < 32 by omega, show i < 8 by omega, show i < 16 by omega, show i < 24 by omega] using this
  · have := hbit (i + 8)
    rw [big a ha (i + 8) (by omega)] at this
    simpa [show i + 8 < 32 by omega, show ¬ i + 8 < 8 by omega, show i + 8 < 16 by omega, show i + 8 < 24 by omega] using this
  · have := hbit (i + 16)
    rw [big a ha (i + 16) (by omega), show i + 16 - 8 = i + 8 by omega, big b hb (i + 8) (by omega)] at this
    simpa [show i + 16 < 32 by omega, show ¬ i + 16 < 16 by omega, show i + 16 < 24 by omega] using this
  · have := hbit (i + 24)
    rw [big a ha (i + 24) (by omega), show i + 24 - 8 = i + 16 by omega, big b hb (i + 16) (by omega), show i + 24 - 16 = i + 8 by omega, big c hc (i + 8) (by omega)] at this
    simpa [show i + 24 < 32 by omega, show ¬ i + 24 < 24 by omega] using this
theorem reg_small : ∀ (z : List W), z.length ≤ 4 → (∀ v ∈ z, v.toNat < 256) → reg 0 z = 0 → ∀ v ∈ z, v = 0 := by
  intro z hz hb h
  have pad : reg 0 (z ++ List.replicate (4 - z.length) 0) = 0 := by rw [reg_append, h, reg_zeros, it_Z_of_zero]
  have hl : (z ++ List.replicate (4 - z.length) 0).length = 4 := by simp; omega
  have hb' : ∀ v ∈ z ++ List.replicate (4 - z.length) 0, v.toNat < 256 := by
    intro v hv
    rcases List.mem_append.1 hv with hv | hv
    · exact hb v hv
    · rw [(List.mem_replicate.1 hv).2]; decide
  have hall : ∀ v ∈ z ++ List.replicate (4 - z.length) 0, v = 0 := by
    revert pad hl hb'
    generalize z ++ List.replicate (4 - z.length) 0 = l
    intro pad hl hb'
    match l, hl with
    | [a, b, c, d], _ =>
      have ha := hb' a (by simp)
      have h2 := hb' b (by simp)
      have h3 := hb' c (by simp)
      have h4 := hb' d (by simp)
      rw [reg_four a b c d h2 h3 h4] at pad
      obtain ⟨rfl, rfl, rfl, rfl⟩ := bytes_zero a b c d ha h2 h3 h4 (it_Z_zero 4 pad)
      intro v hv
      simp at hv
      exact hv
  exact fun v hv => hall v (List.mem_append_left _ hv)

theorem lay_length (p q : List W) (h : p.length = q.length) : (lay p q).length = p.length := by simp [lay]; omega
theorem lay_get (p q : List W) (i : Nat) (hi : i < p.length) (hj : i < q.length) : (lay p q)[i]'(by simp [lay]; omega) = p[i] ^^^ q[i] := by simp [lay]
theorem xor_byte (x y : W) (hx : x.toNat < 256) (hy : y.toNat < 256) : (x ^^^ y).toNat < 256 := by
  rw [BitVec.toNat_xor]; exact Nat.xor_lt_two_pow (n := 8) hx hy
/-- unlike bytes within four neighbouring places are told -/
theorem tells (c : W) (p q : List W) (a : Nat) (hl : p.length = q.length) (hp : ∀ v ∈ p, v.toNat < 256) (hq : ∀ v ∈ q, v.toNat < 256)
    (he : ∀ i (hi : i < p.length) (hj : i < q.length), i < a ∨ a + 4 ≤ i → p[i] = q[i]) (h : reg c p = reg c q) : p = q := by
  have h0 : reg 0 (lay p q) = 0 := by
    have := reg_lay c c p q hl
    rw [h] at this
    simpa using this.symm
  have hll := lay_length p q hl
  have hby : ∀ v ∈ lay p q, v.toNat < 256 := by
    intro v hv
    obtain ⟨i, hi, rfl⟩ := List.getElem_of_mem hv
    rw [lay_get p q i (by omega) (by omega)]
    exact xor_byte _ _ (hp _ (List.getElem_mem _)) (hq _ (List.getElem_mem _))
  have hzero : ∀ i (hi : i < (lay p q).length), i < a ∨ a + 4 ≤ i → (lay p q)[i] = 0 := by
    intro i hi hc
    rw [lay_get p q i (by omega) (by omega), he i (by omega) (by omega) hc]; simp
  have hsplit : lay p q = List.replicate (min a (lay p q).length) 0 ++ (((lay p q).drop a).take 4 ++ List.replicate ((lay p q).length - (a + 4)) 0) := by
    apply List.ext_getElem
    · simp; omega
    · intro i h1 h2
      by_cases c1 : i < a
      · rw [List.getElem_append_left (by simp; omega), List.getElem_replicate]
        exact hzero i h1 (.inl c1)
      · rw [List.getElem_append_right (by simp; omega)]
        by_cases c2 : i < a + 4
        · rw [List.getElem_append_left (by simp; omega), List.getElem_take, List.getElem_drop]
          congr 1
          simp; omega
        · rw [List.getElem_append_right (by simp; omega), List.getElem_replicate]
          exact hzero i h1 (.inr (by omega))
  rw [hsplit, reg_append, reg_zeros, it_Z_of_zero, reg_append, reg_zeros] at h0
  have h1 := it_Z_zero _ h0
  have h2 := reg_small _ (by simp; omega) (fun v hv => hby v (List.mem_of_mem_drop (List.mem_of_mem_take hv))) h1
  apply List.ext_getElem hl
  intro i hi hj
  by_cases c1 : i < a ∨ a + 4 ≤ i
  · exact he i hi hj c1
  · have hm : (lay p q)[i]'(by omega) ∈ ((lay p q).drop a).take 4 := by
      have e : (lay p q)[i]'(by omega) = (((lay p q).drop a).take 4)[i - a]'(by simp; omega) := by
        rw [List.getElem_take, List.getElem_drop]
        congr 1
        omega
      rw [e]
      exact List.getElem_mem _
    have h3 := h2 _ hm
    rw [lay_get p q i hi hj] at h3
    have h4 : p[i] ^^^ q[i] ^^^ q[i] = 0 ^^^ q[i] := by rw [h3]
    simpa [BitVec.xor_assoc] using h4
theorem not_inj {x y : W} (h : ~~~ x = ~~~ y) : x = y := by
  have := congrArg (fun z => ~~~ z) h
  simpa using this
theorem sum_tells (p q : List W) (a : Nat) (hl : p.length = q.length) (hp : ∀ v ∈ p, v.toNat < 256) (hq : ∀ v ∈ q, v.toNat < 256)
    (he : ∀ i (hi : i < p.length) (hj : i < q.length), i < a ∨ a + 4 ≤ i → p[i] = q[i]) (h : sum p = sum q) : p = q :=
  tells _ p q a hl hp hq he (not_inj h)
theorem sum_linear (p q : List W) (hl : p.length = q.length) : sum p ^^^ sum q ^^^ sum (lay p q) = sum (List.replicate p.length 0) := by
  unfold sum upd
  rw [show ∀ a b c : W, ~~~ a ^^^ ~~~ b ^^^ ~~~ c = ~~~ (a ^^^ b ^^^ c) from fun a b c => by
    rw [not_eq, not_eq b, not_eq c, not_eq (a ^^^ b ^^^ c)]
    apply BitVec.eq_of_getLsbD_eq
    intro i hi
    simp only [BitVec.getLsbD_xor]
    cases a.getLsbD i <;> cases b.getLsbD i <;> cases c.getLsbD i <;> cases (BitVec.allOnes 32).getLsbD i <;> rfl]
  rw [reg_lay _ _ p q hl, reg_lay _ _ (lay p q) (lay p q) rfl]
  congr 1
  rw [show ~~~ (0 : W) ^^^ ~~~ (0 : W) ^^^ ~~~ (0 : W) = ~~~ (0 : W) by decide]
  congr 1
  apply List.ext_getElem
  · rw [lay_length _ _ rfl, lay_length _ _ hl]; simp
  · intro i h1 h2
    rw [lay_length _ _ rfl] at h1
    rw [lay_get _ _ i h1 h1]
    simp

end Go.Proofs.Ytelecdncdaepnaa.CrcMath
