import Derived.Test.YtpmnnnbkbcpgjaaGreatDoorQTopSameB
import Derived.Test.YtpmnnnbkbcpgjaaGreatDoorQSegLay
import Derived.Test.YtpmnnnbkbcpgjaaGreatDoorQSegmentGap
/- WholeSegment: what it gathers: the bytes, the batches (whose lists may stand in old memory), the places; the parts that come in. -/
namespace Go.Proofs.YtpmnnnbkbcpgjaaGreatDoor
open Go.RowKit
open FrameMath (laid)

def vcells (b : BvV) : List Value := [.int .u64 b.f, .slice b.A b.es.length b.c]
theorem vcells_length (bs : List BvV) : (bs.flatMap vcells).length = bs.length * 2 := by
  induction bs with
  | nil => rfl
  | cons f fs ih => simp [List.flatMap_cons, vcells, ih]; omega
theorem vcells_get (bs : List BvV) (i : Nat) (b : BvV) (h : bs[i]? = some b) : (bs.flatMap vcells)[i * 2]? = some (.int .u64 b.f) ∧ (bs.flatMap vcells)[i * 2 + 1]? = some (.slice b.A b.es.length b.c) := by
  induction bs generalizing i with
  | nil => simp at h
  | cons g fs ih =>
    rw [List.flatMap_cons]
    cases i with
    | zero => simp at h; subst h; simp [vcells]
    | succ i =>
      have := ih i (by simpa using h)
      rw [show (i + 1) * 2 = i * 2 + 2 by omega, show i * 2 + 2 + 1 = (i * 2 + 1) + 2 by omega]
      rw [List.getElem?_append_right (by simp [vcells]), List.getElem?_append_right (by simp [vcells])]
      simpa [vcells] using this
theorem btL : ElT Tryz.prog 49 35 (.agg #[.int .u64 0, .slice none 0 0]) 2 32 := ⟨Tryz.underlying49, by kernel_rfl, rfl, by decide⟩
/-- what is gathered -/
structure WS (w0 wr : World) (P : List UInt8) (vp va ve : Value) (n : Nat) (es : List Value) (bs : List BvV) : Prop where
  p : OB wr w0.heap.size 5 vp P
  ends : wr.ownsRow w0.heap.size 3 1 ve n es
  all : wr.ownsRow w0.heap.size 35 2 va bs.length (bs.flatMap vcells)
  ok : ∀ b ∈ bs, Ents wr b.A b.es
  far : ∀ b ∈ bs, ∀ k, uses b k → vp.ownBlock ≠ some k ∧ va.ownBlock ≠ some k ∧ ve.ownBlock ≠ some k
  pe : apartV vp ve
  pa : apartV vp va
  ea : apartV ve va
  below : Below w0.heap.size w0 wr
theorem WS.new {w0 wr wr' : World} {P : List UInt8} {vp va ve : Value} {n : Nat} {es : List Value} {bs : List BvV} (h : WS w0 wr P vp va ve n es bs) (hb : Below wr.heap.size wr wr') : WS w0 wr' P vp va ve n es bs :=
  ⟨h.p.new hb, own_new h.ends hb, own_new h.all hb, fun b hm => (h.ok b hm).new hb, h.far, h.pe, h.pa, h.ea, below_then h.below hb⟩
theorem step_ne {w : World} {v v' : Value} {k : Nat} (h : v.ownBlock ≠ some k) (hk : k < w.heap.size) (hv : v'.ownBlock = v.ownBlock ∨ v'.ownBlock = some w.heap.size) : v'.ownBlock ≠ some k := fun e => by
  rcases hv with e1 | e1
  · exact h (e1.symm.trans e)
  · rw [e1] at e; have := Option.some.inj e; omega
/-- bytes more -/
theorem WS.app_p {w0 wr wr' : World} {P P' : List UInt8} {vp vp' va ve : Value} {n : Nat} {es : List Value} {bs : List BvV} (h : WS w0 wr P vp va ve n es bs) (ho : OB wr' w0.heap.size 5 vp' P') (hg : wr.grownBy wr' vp.ownBlock) (hv : vp'.ownBlock = vp.ownBlock ∨ vp'.ownBlock = some wr.heap.size) : WS w0 wr' P' vp' va ve n es bs :=
  ⟨ho, h.ends.kept hg h.pe.symm, h.all.kept hg h.pa.symm, fun b hm => (h.ok b hm).keepU fun k hk => hg.block k (uses_lt (h.ok b hm) k hk) (fun e => (h.far b hm k hk).1 e.symm), fun b hm k hk => ⟨step_ne (h.far b hm k hk).1 (uses_lt (h.ok b hm) k hk) hv, (h.far b hm k hk).2⟩,
    (apart_step h.pe.symm (fun k hk => (h.ends.lt k hk).2) hv).symm, (apart_step h.pa.symm (fun k hk => (h.all.lt k hk).2) hv).symm, h.ea, h.below.grown hg h.below.size fun k hk => (h.p.at_base k hk).1⟩
/-- a place more -/
theorem WS.app_ends {w0 wr wr' : World} {P : List UInt8} {vp va ve ve' : Value} {n n' : Nat} {es es' : List Value} {bs : List BvV} (h : WS w0 wr P vp va ve n es bs) (ho : wr'.ownsRow w0.heap.size 3 1 ve' n' es') (hg : wr.grownBy wr' ve.ownBlock) (hv : ve'.ownBlock = ve.ownBlock ∨ ve'.ownBlock = some wr.heap.size) : WS w0 wr' P vp va ve' n' es' bs :=
  ⟨h.p.keep hg h.pe, ho, h.all.kept hg h.ea.symm, fun b hm => (h.ok b hm).keepU fun k hk => hg.block k (uses_lt (h.ok b hm) k hk) (fun e => (h.far b hm k hk).2.2 e.symm), fun b hm k hk => ⟨(h.far b hm k hk).1, (h.far b hm k hk).2.1, step_ne (h.far b hm k hk).2.2 (uses_lt (h.ok b hm) k hk) hv⟩,
    apart_step h.pe (fun k hk => (h.p.at_base k hk).2) hv, h.pa, (apart_step h.ea.symm (fun k hk => (h.all.lt k hk).2) hv).symm, h.below.grown hg h.below.size fun k hk => (h.ends.lt k hk).1⟩
/-- a batch more -/
theorem WS.app_all {w0 wr wr' : World} {P : List UInt8} {vp va va' ve : Value} {n : Nat} {es : List Value} {bs : List BvV} (b : BvV) (h : WS w0 wr P vp va ve n es bs) (hb : Ents wr b.A b.es) (hf : ∀ k, uses b k → vp.ownBlock ≠ some k ∧ va.ownBlock ≠ some k ∧ ve.ownBlock ≠ some k) (ho : wr'.ownsRow w0.heap.size 35 2 va' (bs.length + 1) (bs.flatMap vcells ++ vcells b)) (hg : wr.grownBy wr' va.ownBlock) (hv : va'.ownBlock = va.ownBlock ∨ va'.ownBlock = some wr.heap.size) : WS w0 wr' P vp va' ve n es (bs ++ [b]) := by
  have hok : ∀ d ∈ bs ++ [b], Ents wr d.A d.es ∧ ∀ k, uses d k → vp.ownBlock ≠ some k ∧ va.ownBlock ≠ some k ∧ ve.ownBlock ≠ some k := fun d hd => by
    rcases List.mem_append.1 hd with hd | hd
    · exact ⟨h.ok d hd, h.far d hd⟩
    · obtain rfl := List.mem_singleton.1 hd
      exact ⟨hb, hf⟩
  refine ⟨h.p.keep hg h.pa, h.ends.kept hg h.ea, ?_, fun d hd => (hok d hd).1.keepU fun k hk => hg.block k (uses_lt (hok d hd).1 k hk) (fun e => ((hok d hd).2 k hk).2.1 e.symm), fun d hd k hk => ⟨((hok d hd).2 k hk).1, step_ne ((hok d hd).2 k hk).2.1 (uses_lt (hok d hd).1 k hk) hv, ((hok d hd).2 k hk).2.2⟩,
    h.pe, apart_step h.pa (fun k hk => (h.p.at_base k hk).2) hv, apart_step h.ea (fun k hk => (h.ends.lt k hk).2) hv, h.below.grown hg h.below.size fun k hk => (h.all.lt k hk).1⟩
  rw [List.length_append, List.flatMap_append]
  simpa using ho
theorem WS.bats {w0 wr : World} {P : List UInt8} {vp ve : Value} {A : Option Addr} {c n m : Nat} {es : List Value} {bs : List BvV} (h : WS w0 wr P vp (.slice A m c) ve n es bs) (hm : m = bs.length) : Bats wr A bs := by
  subst hm
  refine ⟨fun i hi => ?_, h.ok⟩
  obtain ⟨c0, c1⟩ := vcells_get bs i bs[i] (List.getElem?_eq_getElem hi)
  obtain ⟨g, c', hv, _, r0⟩ := own_at h.all _ _ c0
  obtain ⟨g', c2, hv', _, r1⟩ := own_at h.all _ _ c1
  injection hv with e1
  injection hv' with e2
  have e3 : g' = g := by rw [e1] at e2; have := Option.some.inj e2; injection this with e4; exact e4.symm
  subst e3
  exact ⟨⟨g', 0, none⟩, e1, by rw [addr_at, Nat.zero_add]; exact r0, by rw [addr_at, Nat.zero_add]; exact r1⟩

/-- a part that comes in -/
structure PtV where
  c : Nat
  e : En
  a : EnA
structure Prts (w : World) (A : Option Addr) (ps : List PtV) : Prop where
  out : ∀ i (h : i < ps.length), ∃ a, A = some a ∧ w.cell? (a.add (i * 4)) = some (.int .u8 ps[i].c) ∧ w.cell? (a.add (i * 4 + 1)) = some (.int .u8 ps[i].e.k) ∧ w.cell? (a.add (i * 4 + 2)) = some (.slice ps[i].a.KA ps[i].e.K.length ps[i].a.kc) ∧ w.cell? (a.add (i * 4 + 3)) = some (.slice ps[i].a.VA ps[i].e.V.length ps[i].a.vc)
  ok : ∀ p ∈ ps, EnOk w p.e p.a ∧ p.c ≤ 255
theorem Prts.new {w w' : World} {A : Option Addr} {ps : List PtV} (h : Prts w A ps) (hb : Below w.heap.size w w') : Prts w' A ps := by
  refine ⟨fun i hi => ?_, fun p hp => ⟨(h.ok p hp).1.new hb, (h.ok p hp).2⟩⟩
  obtain ⟨a, ha, h0, h1, h2, h3⟩ := h.out i hi
  have hc : ∀ j u, w.cell? (a.add j) = some u → w'.cell? (a.add j) = some u := fun j u hu => (hb.cell (World.block_lt_of_cell? w _ hu)).trans hu
  exact ⟨a, ha, hc _ _ h0, hc _ _ h1, hc _ _ h2, hc _ _ h3⟩
theorem add_nextP (a : Addr) (i j : Nat) (hj : 0 < j) : a.add (i + j) = ⟨(a.add i).block, (a.add i).off + j, none⟩ := by
  unfold Addr.add
  rw [if_neg (by omega)]
  by_cases h : i = 0
  · subst h; simp
  · rw [if_neg h]; simp [Nat.add_assoc]
theorem Prts.at_ {w : World} {A : Option Addr} {ps : List PtV} (h : Prts w A ps) (i : Nat) (hi : i < ps.length) : ∃ a p, A = some a ∧ ps[i]? = some p ∧ p ∈ ps ∧ w.cell? (a.add (i * 4)) = some (.int .u8 p.c) ∧ w.cell? ⟨(a.add (i * 4)).block, (a.add (i * 4)).off + 1, none⟩ = some (.int .u8 p.e.k) ∧ w.cell? ⟨(a.add (i * 4)).block, (a.add (i * 4)).off + 2, none⟩ = some (.slice p.a.KA p.e.K.length p.a.kc) ∧ w.cell? ⟨(a.add (i * 4)).block, (a.add (i * 4)).off + 3, none⟩ = some (.slice p.a.VA p.e.V.length p.a.vc) := by
  obtain ⟨a, ha, h0, h1, h2, h3⟩ := h.out i hi
  rw [add_nextP _ _ _ (by decide)] at h1 h2 h3
  exact ⟨a, ps[i], ha, List.getElem?_eq_getElem hi, List.getElem_mem hi, h0, h1, h2, h3⟩
/-- the batches that are made of them, from the index f on -/
def lsP : Nat → List PtV → List (List En)
  | _, [] => []
  | f, p :: ps => partN f p.e (p.c % 64) :: lsP (f + (p.c % 64 + 1)) ps
theorem lsP_length : ∀ (ps : List PtV) (f : Nat), (lsP f ps).length = ps.length
  | [], _ => rfl
  | p :: ps, f => by simp [lsP, lsP_length ps]
theorem lsP_get : ∀ (ps : List PtV) (f j : Nat) (p : PtV), ps[j]? = some p → (lsP f ps)[j]? = some (partN (endIx f ((lsP f ps).take j)) p.e (p.c % 64))
  | [], _, j, p, h => by simp at h
  | q :: ps, f, 0, p, h => by
    simp at h; subst h; simp [lsP, endIx]
  | q :: ps, f, j + 1, p, h => by
    have := lsP_get ps (f + (q.c % 64 + 1)) j p (by simpa using h)
    simp only [lsP, List.getElem?_cons_succ, List.take_succ_cons, endIx, partN_length]
    exact this
theorem lsP_ok : ∀ (ps : List PtV) (f : Nat), f + 64 * ps.length < 18446744073709551616 → okBs f (lsP f ps)
  | [], _, _ => trivial
  | p :: ps, f, h => by
    rw [List.length_cons] at h
    have h0 : p.c % 64 < 64 := Nat.mod_lt _ (by decide)
    refine ⟨encBF_valid f _ (by rw [partN_length]; omega) (by rw [partN_length]; omega) (by rw [partN_length]; omega) (partN_chk f p.e _), ?_⟩
    rw [partN_length]
    exact lsP_ok ps _ (by omega)
theorem endIx_le : ∀ (ls : List (List En)) (f : Nat), (∀ l ∈ ls, l.length ≤ 64) → endIx f ls ≤ f + 64 * ls.length
  | [], f, _ => by simp [endIx]
  | l :: ls, f, h => by
    have h1 := endIx_le ls (f + l.length) fun d hd => h d (List.mem_cons_of_mem _ hd)
    have h2 := h l (List.mem_cons_self ..)
    simp only [endIx, List.length_cons]
    omega
theorem lsP_small : ∀ (ps : List PtV) (f : Nat), ∀ l ∈ lsP f ps, l.length ≤ 64
  | [], _, l, h => absurd h (by simp [lsP])
  | p :: ps, f, l, h => by
    rcases List.mem_cons.1 h with rfl | h
    · rw [partN_length]; have : p.c % 64 < 64 := Nat.mod_lt _ (by decide); omega
    · exact lsP_small ps _ l h
end Go.Proofs.YtpmnnnbkbcpgjaaGreatDoor
