/- Words that the walks of this seat use: a word of 32 bits as a number, a list of bytes as it stands in memory, and what a call leaves as it was. -/
import Derived.Test.YtelecdncdaepnaaChecked
import Derived.Test.YtelecdncdaepnaaCrcMath
import Derived.WalkKit
import Derived.WalkSpells
import Derived.WalkLawsBesides
import Derived.Lib.Hide
import Derived.Laws.AppendOwnNone
import Derived.Laws.CopyOwn
namespace Go.Proofs.Ytelecdncdaepnaa
open Go.RowKit
open CrcMath (W)

/-- a word as a number -/
def uI (x : W) : Int := (x.toNat : Int)
theorem uI_range (x : W) : 0 ≤ uI x ∧ uI x ≤ 4294967295 := by
  have := x.isLt
  unfold uI; omega
theorem uI_inj {x y : W} : uI x = uI y ↔ x = y := by
  unfold uI
  constructor
  · intro h; exact BitVec.eq_of_toNat_eq (by omega)
  · intro h; rw [h]
theorem uI_of (n : Int) (h0 : 0 ≤ n) (h1 : n ≤ 4294967295) : uI (BitVec.ofInt 32 n) = n := by
  unfold uI
  rw [BitVec.toNat_ofInt]; omega
theorem ofInt_uI (x : W) : BitVec.ofInt 32 (uI x) = x := by
  unfold uI
  rw [BitVec.ofInt_natCast]; simp
theorem wrap_uI (x : W) : IntKind.u32.wrap (uI x) = uI x := by
  have := uI_range x
  rw [IntKind.wrap_u32]; omega
theorem bits_xor_uI (x y : W) : bits .xor .u32 (uI x) (uI y) = uI (x ^^^ y) := by
  show IntKind.u32.wrap ((BitVec.ofInt 32 (uI x) ^^^ BitVec.ofInt 32 (uI y)).toNat : Int) = _
  rw [ofInt_uI, ofInt_uI]; exact wrap_uI _
theorem bits_xor_lit (x : W) (n : Int) : bits .xor .u32 (uI x) n = uI (x ^^^ BitVec.ofInt 32 n) := by
  show IntKind.u32.wrap ((BitVec.ofInt 32 (uI x) ^^^ BitVec.ofInt 32 n).toNat : Int) = _
  rw [ofInt_uI]; exact wrap_uI _
theorem bits_and_one (x : W) : bits .and .u32 (uI x) 1 = if x.getLsbD 0 then 1 else 0 := by
  show IntKind.u32.wrap ((BitVec.ofInt 32 (uI x) &&& BitVec.ofInt 32 1).toNat : Int) = _
  rw [ofInt_uI]
  rw [show ((x &&& BitVec.ofInt 32 1).toNat : Int) = uI (x &&& BitVec.ofInt 32 1) from rfl, wrap_uI]
  unfold uI
  rw [BitVec.toNat_and, show (BitVec.ofInt 32 1).toNat = 1 from rfl, Nat.and_one_is_mod]
  have : x.getLsbD 0 = decide (x.toNat % 2 = 1) := by
    rw [BitVec.getLsbD, Nat.testBit_zero]
  rw [this]
  by_cases h : x.toNat % 2 = 1
  · simp [h]
  · simp [h]; omega
theorem uI_half (x : W) : uI x / (2 : Int) = uI (x >>> 1) := by
  unfold uI
  rw [BitVec.toNat_ushiftRight, Nat.shiftRight_eq_div_pow]; omega
theorem uI_not (x : W) : bits .xor .u32 IntKind.u32.max (uI x) = uI (~~~ x) := by
  rw [show IntKind.u32.max = 4294967295 from rfl]
  show IntKind.u32.wrap ((BitVec.ofInt 32 4294967295 ^^^ BitVec.ofInt 32 (uI x)).toNat : Int) = _
  rw [ofInt_uI, show BitVec.ofInt 32 4294967295 ^^^ x = ~~~ x by rw [CrcMath.not_eq, BitVec.xor_comm]; rfl]; exact wrap_uI _

/-- a byte as a number, and as a word -/
def uB (b : UInt8) : Int := (b.toNat : Int)
def bW (b : UInt8) : W := BitVec.ofNat 32 b.toNat
theorem uB_range (b : UInt8) : 0 ≤ uB b ∧ uB b ≤ 255 := by
  have := b.toNat_lt
  unfold uB; omega
theorem uI_bW (b : UInt8) : uI (bW b) = uB b := by
  have := b.toNat_lt
  unfold uI bW uB
  rw [BitVec.toNat_ofNat]; omega
theorem bits_xor_byte (x : W) (b : UInt8) : bits .xor .u32 (uI x) (uB b) = uI (x ^^^ bW b) := by rw [← uI_bW]; exact bits_xor_uI _ _

/-- the bytes p stand from A on; there is room for c -/
structure RB (w : World) (A : Option Addr) (c : Nat) (p : List UInt8) : Prop where
  out : 0 < p.length → ∃ a, A = some a ∧ ∀ i (h : i < p.length), w.cell? (a.add i) = some (.int .u8 (uB p[i]))
  nil : A = none → c = 0 ∧ p = []
  len : p.length ≤ c
  cap : c ≤ 9223372036854775807
theorem RB.void (w : World) : RB w none 0 [] := ⟨fun h => absurd h (by simp), fun _ => ⟨rfl, rfl⟩, Nat.le_refl _, by decide⟩
theorem RB.at_ {w : World} {A : Option Addr} {c : Nat} {p : List UInt8} (h : RB w A c p) (i : Nat) (hi : i < p.length) : ∃ a, A = some a ∧ w.cell? (a.add i) = some (.int .u8 (uB p[i])) := by
  obtain ⟨a, e, hc⟩ := h.out (by omega)
  exact ⟨a, e, hc i hi⟩
theorem RB.small {w : World} {A : Option Addr} {c : Nat} {p : List UInt8} (h : RB w A c p) : p.length ≤ 9223372036854775807 := Nat.le_trans h.len h.cap
/-- where p stands lies below block B -/
structure Old (B : Nat) (A : Option Addr) (p : List UInt8) : Prop where
  out : ∀ a, A = some a → 0 < p.length → a.block < B
theorem RB.old {w : World} {A : Option Addr} {c : Nat} {p : List UInt8} (h : RB w A c p) : Old w.heap.size A p := by
  refine ⟨fun a e hp => ?_⟩
  obtain ⟨a', e', hc⟩ := h.out hp
  rw [e] at e'
  obtain rfl := Option.some.inj e'
  have := World.block_lt_of_cell? w _ (hc 0 hp)
  simpa [Addr.add] using this
theorem Old.mono {B B' : Nat} {A : Option Addr} {p : List UInt8} (h : Old B A p) (hB : B ≤ B') : Old B' A p := ⟨fun a e hp => Nat.lt_of_lt_of_le (h.out a e hp) hB⟩
theorem block_add (a : Addr) (i : Nat) : (a.add i).block = a.block := by unfold Addr.add; split <;> rfl
/-- p still stands there, where its block is as it was -/
theorem RB.keep {w w' : World} {A : Option Addr} {c : Nat} {p : List UInt8} (h : RB w A c p) (hk : ∀ a, A = some a → 0 < p.length → w'.heap[a.block]? = w.heap[a.block]?) : RB w' A c p := by
  refine ⟨fun hp => ?_, h.nil, h.len, h.cap⟩
  obtain ⟨a, e, hr⟩ := h.out hp
  exact ⟨a, e, fun i hi => (World.cell?_of_block (a := a.add i) (by rw [block_add]; exact hk a e hp)).trans (hr i hi)⟩
theorem RB.below {w w' : World} {B : Nat} {A : Option Addr} {c : Nat} {p : List UInt8} (h : RB w A c p) (hb : Below B w w') (ho : Old B A p) : RB w' A c p :=
  h.keep fun a e hp => hb.block _ (ho.out a e hp)
/-- new memory alone: all that stood stands -/
theorem RB.new {w w' : World} {A : Option Addr} {c : Nat} {p : List UInt8} (h : RB w A c p) (hb : Below w.heap.size w w') : RB w' A c p := h.below hb h.old

def encB (p : List UInt8) : List Value := p.map fun b => .int .u8 (uB b)
theorem encB_length (p : List UInt8) : (encB p).length = p.length := by simp [encB]
theorem encB_append (p q : List UInt8) : encB (p ++ q) = encB p ++ encB q := by simp [encB]
theorem encB_one (p : List UInt8) : ∀ u ∈ encB p, u.oneCell' = true := by
  intro u hu
  simp only [encB, List.mem_map] at hu
  obtain ⟨b, _, rfl⟩ := hu
  rfl
theorem encB_get (p : List UInt8) (j : Nat) (u : Value) (h : (encB p)[j]? = some u) : ∃ hj : j < p.length, u = .int .u8 (uB p[j]) := by
  simp only [encB, List.getElem?_map] at h
  by_cases hj : j < p.length
  · rw [List.getElem?_eq_getElem hj] at h
    exact ⟨hj, (Option.some.inj h).symm⟩
  · rw [List.getElem?_eq_none (by omega)] at h
    exact absurd h (by simp)
theorem RB.cells {w : World} {a : Addr} {c : Nat} {p : List UInt8} (h : RB w (some a) c p) : ∀ j u, (encB p)[j]? = some u → w.cell? (a.add j) = some u := by
  intro j u hu
  obtain ⟨hj, rfl⟩ := encB_get p j u hu
  obtain ⟨a', e, hc⟩ := h.at_ j hj
  obtain rfl := Option.some.inj e
  exact hc

/-- v is a slice whose row begins a block of its own from base on (or nil): p stands in it -/
structure OB (w : World) (base e : Nat) (v : Value) (p : List UInt8) : Prop where
  out : w.ownsRow base e 1 v p.length (encB p)
theorem OB.nil (w : World) (base e : Nat) : OB w base e (.slice none 0 0) [] := ⟨World.ownsRow_nil w base e 1⟩
theorem OB.form {w : World} {base e : Nat} {v : Value} {p : List UInt8} (h : OB w base e v p) : ∃ A c, v = .slice A p.length c ∧ RB w A c p := by
  have h0 := h.out
  rcases h0.2 with ⟨rfl, hn⟩ | ⟨g, cap, cur, rfl, hb, hh, hn, hc, hs, ht⟩
  · have : p = [] := List.eq_nil_of_length_eq_zero hn
    subst this
    exact ⟨none, 0, rfl, RB.void w⟩
  · refine ⟨_, cap, rfl, ⟨fun hp => ⟨_, rfl, fun i hi => ?_⟩, fun e => absurd e (by simp), hn, by unfold maxLen at hc; exact hc⟩⟩
    refine h0.cells (g := g) rfl i _ ?_
    simp [encB, hi]
theorem OB.at_base {w : World} {base e : Nat} {v : Value} {p : List UInt8} (h : OB w base e v p) : ∀ k, v.ownBlock = some k → base ≤ k ∧ k < w.heap.size := h.out.lt
theorem OB.keep {w w' : World} {base e : Nat} {v : Value} {p : List UInt8} (h : OB w base e v p) {row : Option Nat} (hg : w.grownBy w' row) (hne : v.ownBlock = none ∨ v.ownBlock ≠ row) : OB w' base e v p := ⟨h.out.kept hg hne⟩
theorem grown_of_below {w w1 : World} (h : Below w.heap.size w w1) (row : Option Nat) : w.grownBy w1 row := ⟨h.os, h.tape, h.output, h.size, fun i hi _ => h.block i hi⟩
theorem OB.new {w w' : World} {base e : Nat} {v : Value} {p : List UInt8} (h : OB w base e v p) (hb : Below w.heap.size w w') : OB w' base e v p :=
  h.keep (grown_of_below hb none) (by cases v.ownBlock <;> simp)
theorem OB.mono {w : World} {base base' e : Nat} {v : Value} {p : List UInt8} (h : OB w base e v p) (hb : base' ≤ base) : OB w base' e v p := by
  refine ⟨h.out.1, ?_⟩
  rcases h.out.2 with h2 | ⟨g, cap, cur, rfl, hg, r⟩
  · exact .inl h2
  · exact .inr ⟨g, cap, cur, rfl, Nat.le_trans hb hg, r⟩
theorem below_grown {B : Nat} {w0 w w' : World} {base e : Nat} {v : Value} {p : List UInt8} (h : Below B w0 w) (ho : OB w base e v p) (hg : w.grownBy w' v.ownBlock) (hB : B ≤ w.heap.size) (hb : B ≤ base) : Below B w0 w' :=
  h.grown hg hB fun k hk => Nat.le_trans hb (ho.at_base k hk).1

/-- the types of bytes and of lists of bytes -/
structure ByteT (P : Program) (t e : TypeId) : Prop where
  sl : P.underlying t = some (.slice e)
  info : (P.info? e).map (fun i => (i.zero, i.size, i.bytes)) = some (some (.int .u8 0), 1, 1)

section
variable {P : Program} {t e : TypeId} {w : World} {ops : Array Oper} {rest : List Oper} {o : Oper} {a : Act} {Q : Exit → Act → World → Prop}

/-- make([]byte, n) -/
theorem wp_makeB (bt : ByteT P t e) (hg : o.guard = none) (l c : Operand) (hop : o.op = Op.makeSlice t l c) (kl kc : IntKind) (C : Int) (n : Nat) (hl : a.eval l = .int kl C) (hc : a.eval c = .int kc C) (hC : C = n) (hn : n ≤ 281474976710656) (base : Nat) (hbase : base ≤ w.heap.size)
    (h : ∀ w', OB w' base e (.slice (some ⟨w.heap.size, 0, none⟩) n n) (List.replicate n 0) → Below w.heap.size w w' → wpList P ops Q rest (a.put o.dst (.slice (some ⟨w.heap.size, 0, none⟩) n n)) w') : wpList P ops Q (o :: rest) a w := by
  obtain ⟨i, hi, hz, hs, hb⟩ := info_parts bt.info
  refine wpList_make_full w hg l c t hop base e i (.int .u8 0) 1 bt.sl hi hz hs kl kc C C n hl hc hC hC (by rw [hb]; omega) (by unfold maxLen; omega) hbase fun w' h1 h2 => ?_
  refine h w' ⟨?_⟩ ⟨h2.os, h2.tape, h2.output, h2.size, fun k hk => h2.block k hk (by simp)⟩
  have e1 : (madeCells (Value.int .u8 0).cells (n * 1)).toList = encB (List.replicate n 0) := by
    rw [Nat.mul_one]
    apply List.ext_getElem
    · simp [madeCells, encB]
    · intro j h1 h2
      simp [madeCells, encB, Value.cells, uB, Nat.mod_one]
  rw [e1] at h1
  simpa using h1

/-- make([]byte, 0, n) -/
theorem wp_makeB0 (bt : ByteT P t e) (hg : o.guard = none) (l c : Operand) (hop : o.op = Op.makeSlice t l c) (kl kc : IntKind) (C : Int) (n : Nat) (hl : a.eval l = .int kl 0) (hc : a.eval c = .int kc C) (hC : C = n) (hn : n ≤ 281474976710656) (base : Nat) (hbase : base ≤ w.heap.size)
    (h : ∀ w', OB w' base e (.slice (some ⟨w.heap.size, 0, none⟩) 0 n) [] → Below w.heap.size w w' → wpList P ops Q rest (a.put o.dst (.slice (some ⟨w.heap.size, 0, none⟩) 0 n)) w') : wpList P ops Q (o :: rest) a w := by
  obtain ⟨i, hi, hz, hs, hb⟩ := info_parts bt.info
  refine wpList_make_own w hg l c t hop base e i (.int .u8 0) 1 bt.sl hi hz hs kl kc C n hl hc hC (by rw [hb]; omega) (by unfold maxLen; omega) hbase fun w' h1 h2 => ?_
  exact h w' ⟨h1⟩ ⟨h2.os, h2.tape, h2.output, h2.size, fun k hk => h2.block k hk (by simp)⟩

/-- append(v, x...) -/
theorem wp_appendB (bt : ByteT P t e) (hg : o.guard = none) (s x : Operand) (hop : o.op = .call { callee := .builtin .append, args := #[s, x], argTypes := #[t, t] })
    (base : Nat) (v : Value) (p : List UInt8) (hs : a.eval s = v) (ho : OB w base e v p) (A : Option Addr) (q : List UInt8) (n c : Nat) (hx : a.eval x = .slice A n c) (hn : n = q.length) (hq : RB w A c q)
    (hlen : p.length + q.length ≤ 140737488355328) (hbase : base ≤ w.heap.size)
    (h : ∀ v' w', OB w' base e v' (p ++ q) → w.grownBy w' v.ownBlock → (v' = .slice none 0 0 ↔ v = .slice none 0 0 ∧ q = []) → wpList P ops Q rest (a.put o.dst v') w') : wpList P ops Q (o :: rest) a w := by
  subst hn
  obtain ⟨i, hi, hz, hsz, hb⟩ := info_parts bt.info
  cases A with
  | none =>
    obtain ⟨rfl, rfl⟩ := hq.nil rfl
    refine wpList_append_own_none hg s x t hop base e i 1 bt.sl hi v p.length (encB p) hs ho.out hx ?_
    refine h v w (by simpa using ho) ⟨rfl, rfl, rfl, Nat.le_refl _, fun _ _ _ => rfl⟩ (by simp)
  | some ad =>
    refine wpList_append_own w hg s x t hop base e i (.int .u8 0) 1 1 bt.sl hi hz hsz hb rfl (by decide) v p.length (encB p) hs ho.out ad q.length c (encB q) hx (by rw [encB_length, Nat.mul_one]) hq.cells (encB_one q) (by unfold maxLen; omega) (by omega) hbase fun v' w' h1 h2 h3 => ?_
    refine h v' w' ⟨by simpa [encB_append] using h1⟩ h2 (h3.trans ?_)
    simp

/-- append within the room there is -/
theorem wp_appendB_fits (bt : ByteT P t e) (hg : o.guard = none) (s x : Operand) (hop : o.op = .call { callee := .builtin .append, args := #[s, x], argTypes := #[t, t] })
    (base g cap : Nat) (p : List UInt8) (k : Nat) (hk : k = p.length) (hs : a.eval s = .slice (some ⟨g, 0, none⟩) k cap) (ho : OB w base e (.slice (some ⟨g, 0, none⟩) k cap) p) (A : Option Addr) (q : List UInt8) (n c : Nat) (hx : a.eval x = .slice A n c) (hn : n = q.length) (hq : RB w A c q)
    (hroom : p.length + q.length ≤ cap) (r : List UInt8) (hr : p ++ q = r)
    (h : ∀ w', OB w' base e (.slice (some ⟨g, 0, none⟩) r.length cap) r → w.grownBy w' (some g) → wpList P ops Q rest (a.put o.dst (.slice (some ⟨g, 0, none⟩) r.length cap)) w') : wpList P ops Q (o :: rest) a w := by
  subst hn
  subst hk
  subst hr
  obtain ⟨i, hi, hz, hsz, hb⟩ := info_parts bt.info
  cases A with
  | none =>
    obtain ⟨rfl, rfl⟩ := hq.nil rfl
    refine wpList_append_own_none hg s x t hop base e i 1 bt.sl hi _ p.length (encB p) hs ho.out hx ?_
    have h' := h w (by simpa using ho) ⟨rfl, rfl, rfl, Nat.le_refl _, fun _ _ _ => rfl⟩
    simpa using h'
  | some ad =>
    refine wpList_append_fits w hg s x t hop base e i 1 bt.sl hi hsz g p.length cap (encB p) hs ho.out ad q.length c (encB q) hx (by rw [encB_length, Nat.mul_one]) hq.cells (encB_one q) hroom fun w' h1 h2 => ?_
    have h' := h w' ⟨by simpa [encB_append] using h1⟩ h2
    simpa using h'

/-- copy over a list of the same length -/
theorem wp_copyB (bt : ByteT P t e) (hg : o.guard = none) (d s : Operand) (hop : o.op = .call { callee := .builtin .copy, args := #[d, s], argTypes := #[t, t] })
    (base g cap : Nat) (z q : List UInt8) (m : Nat) (hd : a.eval d = .slice (some ⟨g, 0, none⟩) m cap) (ho : OB w base e (.slice (some ⟨g, 0, none⟩) m cap) z) (A : Option Addr) (n c : Nat) (hx : a.eval s = .slice A n c) (hn : n = q.length) (hm : m = q.length) (hz : z.length = q.length) (hq : RB w A c q)
    (h : ∀ w', OB w' base e (.slice (some ⟨g, 0, none⟩) m cap) q → w.grownBy w' (some g) → wpList P ops Q rest (a.put o.dst (goInt q.length)) w') : wpList P ops Q (o :: rest) a w := by
  subst hn
  subst hm
  obtain ⟨i, hi, hzz, hsz, hb⟩ := info_parts bt.info
  have hsize : (P.info? e).map (·.size) = some 1 := by rw [hi, Option.map_some, hsz]
  rcases ho.out.2 with ⟨h0, _⟩ | ⟨g', cap', cur, hv, hbg, hh, hn', hc', hs', ht'⟩
  · exact absurd h0 (by simp)
  obtain ⟨rfl, rfl⟩ : g' = g ∧ cap' = cap := by simp at hv; exact ⟨hv.1.symm, hv.2.2.symm⟩
  rw [Nat.mul_one] at hs'
  cases A with
  | none =>
    obtain ⟨rfl, rfl⟩ := hq.nil rfl
    refine wpList_copy_nothing hg d s t t hop e bt.sl hsize _ none _ cap' 0 0 hd hx (by simp) ?_
    refine h w ?_ ⟨rfl, rfl, rfl, Nat.le_refl _, fun _ _ _ => rfl⟩
    have : z = [] := List.eq_nil_of_length_eq_zero (by simpa using hz)
    subst this
    exact ho
  | some ad =>
    refine wpList_copy_own hg d s t t hop e bt.sl hsize g' 0 q.length cap' ad q.length c hd hx cur e hh (encB q) (by simp [encB_length]) hq.cells (by rw [encB_length]; omega) (encB_one q) ?_
    rw [encB_length]
    refine h _ ⟨encB_length q |>.trans (Nat.mul_one _).symm, .inr ⟨g', cap', _, rfl, hbg, setRow_heap _ _ _ _ _ _ hh, hn' |> fun x => by omega, hc', ?_, ?_⟩⟩ ⟨rfl, rfl, rfl, by simp, fun k _ hk => setRow_other _ _ _ _ (fun e => hk (by rw [e]))⟩
    · simp [encB_length]; omega
    · simp only [List.take_zero, List.nil_append]
      rw [Nat.mul_one, ← encB_length q]
      exact List.take_left
end

/-- a byte is written in a row of the call's own -/
theorem OB.set {w : World} {base e g m cap : Nat} {p : List UInt8} (h : OB w base e (.slice (some ⟨g, 0, none⟩) m cap) p) (k : Nat) (b : UInt8) :
    OB (w.setCell ⟨g, k, none⟩ (.int .u8 (uB b))) base e (.slice (some ⟨g, 0, none⟩) m cap) (p.set k b) ∧ w.grownBy (w.setCell ⟨g, k, none⟩ (.int .u8 (uB b))) (some g) := by
  refine ⟨⟨?_⟩, ⟨rfl, rfl, rfl, by simp [World.setCell], fun j _ hj => heap_setCell_other _ _ _ _ (fun e => hj (by rw [e]))⟩⟩
  rcases h.out.2 with ⟨h0, _⟩ | ⟨g', cap', cur, hv, hbg, hh, hn', hc', hs', ht'⟩
  · exact absurd h0 (by simp)
  obtain ⟨rfl, rfl, rfl⟩ : g' = g ∧ m = p.length ∧ cap' = cap := by simp at hv; exact ⟨hv.1.symm, hv.2.1, hv.2.2.symm⟩
  refine ⟨by simp [encB], .inr ⟨g', cap', _, by simp, hbg, heap_setCell_same _ _ _ cur e _ hh, by simpa using hn', hc', by simpa using hs', ?_⟩⟩
  rw [Array.toList_setIfInBounds, List.take_set, List.length_set, ht']
  simp [encB, List.map_set]
theorem OB.cell {w : World} {base e g m cap : Nat} {p : List UInt8} (h : OB w base e (.slice (some ⟨g, 0, none⟩) m cap) p) (k : Nat) (hk : k < p.length) :
    w.cell? ⟨g, k, none⟩ = some (.int .u8 (uB p[k])) ∧ w.frozen? ⟨g, k, none⟩ = false := by
  rcases h.out.2 with ⟨h0, _⟩ | ⟨g', cap', cur, hv, hbg, hh, hn', hc', hs', ht'⟩
  · exact absurd h0 (by simp)
  obtain ⟨rfl, rfl, rfl⟩ : g' = g ∧ m = p.length ∧ cap' = cap := by simp at hv; exact ⟨hv.1.symm, hv.2.1, hv.2.2.symm⟩
  refine ⟨?_, frozen_of_row _ _ _ _ _ hh⟩
  have := h.out.cells (g := g') rfl k (.int .u8 (uB p[k])) (by simp [encB, hk])
  rw [show (⟨g', 0, none⟩ : Addr).add k = ⟨g', k, none⟩ by unfold Addr.add; split <;> simp_all] at this
  exact this
theorem OB.grown_eq {w : World} {base e g m cap : Nat} {p : List UInt8} (h : OB w base e (.slice (some ⟨g, 0, none⟩) m cap) p) : base ≤ g ∧ g < w.heap.size := h.at_base g rfl
theorem OB.len {w : World} {base e m cap : Nat} {A : Option Addr} {p : List UInt8} (h : OB w base e (.slice A m cap) p) : m = p.length := by
  rcases h.out.2 with ⟨h0, h1⟩ | ⟨g', cap', cur, hv, _⟩
  · simp at h0; omega
  · simp at hv; exact hv.2.1
theorem OB.reads {w : World} {base e m cap : Nat} {A : Option Addr} {p : List UInt8} (h : OB w base e (.slice A m cap) p) : RB w A cap p := by
  obtain ⟨A', c', hv, hr⟩ := h.form
  simp at hv
  obtain ⟨rfl, _, rfl⟩ := hv
  exact hr
theorem RB.take {w : World} {A : Option Addr} {c : Nat} {p : List UInt8} (h : RB w A c p) (n : Nat) : RB w A c (p.take n) := by
  refine ⟨fun hp => ?_, fun e => ?_, Nat.le_trans (List.length_take_le' _ _) h.len, h.cap⟩
  · obtain ⟨a, e, hc⟩ := h.out (by simp at hp; omega)
    refine ⟨a, e, fun i hi => ?_⟩
    have := hc i (by simp at hi; omega)
    rw [List.getElem_take]
    exact this
  · obtain ⟨h1, rfl⟩ := h.nil e
    exact ⟨h1, by simp⟩

/-- a byte in a new block of its own (append's argument) -/
theorem RB.one (w : World) (e : TypeId) (b : UInt8) : RB (w.alloc (.cells #[.int .u8 (uB b)] e)) (some ⟨w.heap.size, 0, none⟩) 1 [b] := by
  refine ⟨fun _ => ⟨_, rfl, fun i hi => ?_⟩, fun e => absurd e (by simp), by simp, by decide⟩
  obtain rfl : i = 0 := by simpa using hi
  rw [show (⟨w.heap.size, 0, none⟩ : Addr).add 0 = ⟨w.heap.size, 0, none⟩ from rfl, cell_of_row _ _ _ _ _ _ (heap_alloc_new w _)]
  rfl
/-- bytes that a literal lays -/
theorem RB.lit (w : World) (e : TypeId) (f : Nat × Nat) (C : Array Value) (p : List UInt8) (h : C = (encB p).toArray) (n : Nat) (hn : n = p.length) (hs : p.length ≤ 1000) : RB (w.alloc (.cells C e f)) (some ⟨w.heap.size, 0, none⟩) n p := by
  subst h
  subst hn
  refine ⟨fun _ => ⟨_, rfl, fun i hi => ?_⟩, fun e => absurd e (by simp), Nat.le_refl _, by omega⟩
  rw [show (⟨w.heap.size, 0, none⟩ : Addr).add i = ⟨w.heap.size, i, none⟩ by unfold Addr.add; split <;> simp_all, cell_of_row _ _ _ _ _ _ (heap_alloc_new w _)]
  simp [encB, hi]
theorem below_alloc1 {B : Nat} {w0 w : World} (h : Below B w0 w) (hB : B ≤ w.heap.size) (o : Obj) : Below B w0 (w.alloc o) := h.alloc hB o
theorem OB.alloc {w : World} {base e : Nat} {v : Value} {p : List UInt8} (h : OB w base e v p) (o : Obj) : OB (w.alloc o) base e v p := ⟨h.out.alloc o⟩

/-- the world is the old one; some orders were drawn -/
structure Drawn (w w' : World) : Prop where
  out : ∃ n, w' = w.drewN n
theorem Drawn.refl (w : World) : Drawn w w := ⟨0, rfl⟩
theorem Drawn.below {w w' : World} (h : Drawn w w') (B : Nat) : Below B w w' := by
  obtain ⟨n, rfl⟩ := h.out
  exact ⟨rfl, rfl, rfl, Nat.le_refl _, fun _ _ => rfl⟩
theorem Drawn.trans {w w1 w2 : World} (h : Drawn w w1) (k : Drawn w1 w2) : Drawn w w2 := by
  obtain ⟨n, rfl⟩ := h.out
  obtain ⟨m, rfl⟩ := k.out
  exact ⟨n + m, World.drewN_drewN ..⟩

theorem Drawn.cell {w w' : World} (h : Drawn w w') {a : Addr} {v : Option Value} (hc : w.cell? a = v) : w'.cell? a = v := by
  obtain ⟨n, rfl⟩ := h.out
  exact hc
theorem Drawn.step {w w' : World} (h : Drawn w w') (n : Nat) : Drawn w (w'.drewN n) := h.trans ⟨n, rfl⟩
theorem RB.drawn {w : World} {A : Option Addr} {c : Nat} {p : List UInt8} (h : RB w A c p) (n : Nat) : RB (w.drewN n) A c p := h.new ((⟨⟨n, rfl⟩⟩ : Drawn w (w.drewN n)).below _)
theorem below_drew (B : Nat) (w : World) : Below B w w.drew := (Below.refl B w).drew
theorem ret_bool {a b : Bool} (h : a = b) : Ending.returned (.bool a) = .returned (.bool b) := by rw [h]
theorem ret_int {k : IntKind} {a b : Int} (h : a = b) : Ending.returned (.int k a) = .returned (.int k b) := by rw [h]
end Go.Proofs.Ytelecdncdaepnaa
