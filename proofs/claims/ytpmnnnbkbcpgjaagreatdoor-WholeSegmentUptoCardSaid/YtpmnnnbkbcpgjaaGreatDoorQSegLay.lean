import Derived.Test.YtpmnnnbkbcpgjaaGreatDoorQSegmentReads
import Derived.Test.YtpmnnnbkbcpgjaaGreatDoorQBh
import Derived.Test.YtpmnnnbkbcpgjaaGreatDoorQRowTools
/- What notarylaw08.laid gathers: the bytes, the batches, the places. -/
namespace Go.Proofs.YtpmnnnbkbcpgjaaGreatDoor
open Go.RowKit
open FrameMath (laid)

/-- the place behind the first i batches -/
def endN (f : Nat) (ls : List (List En)) (i : Nat) : Nat := 48 + (frB f (ls.take i)).length
def endsL (f : Nat) (ls : List (List En)) (j : Nat) : List Value := (List.range j).map fun i => .int .i64 (endN f ls i)
theorem endsL_length (f : Nat) (ls : List (List En)) (j : Nat) : (endsL f ls j).length = j := by simp [endsL]
theorem endsL_succ (f : Nat) (ls : List (List En)) (j : Nat) : endsL f ls (j + 1) = endsL f ls j ++ [.int .i64 (endN f ls j)] := by
  unfold endsL
  rw [List.range_succ, List.map_append]; rfl
theorem endsL_get (f : Nat) (ls : List (List En)) (j i : Nat) (h : i < j) : (endsL f ls j)[i]? = some (.int .i64 (endN f ls i)) := by
  unfold endsL
  rw [List.getElem?_map, List.getElem?_range h]; rfl
theorem take_succ8 (ls : List (List En)) (j : Nat) (l : List En) (h : ls[j]? = some l) : ls.take (j + 1) = ls.take j ++ [l] := by
  rw [List.take_add_one, h]; rfl
theorem frB_succ (f : Nat) (ls : List (List En)) (j : Nat) (l : List En) (h : ls[j]? = some l) : frB f (ls.take (j + 1)) = frB f (ls.take j) ++ laid (endIx f (ls.take j)) (encBL (endIx f (ls.take j)) l) := by
  rw [take_succ8 ls j l h, frB_append]
  simp [frB]
theorem ixB_succ (f : Nat) (ls : List (List En)) (j : Nat) (l : List En) (h : ls[j]? = some l) : ixB f (ls.take (j + 1)) = ixB f (ls.take j) ++ [(endIx f (ls.take j), l)] := by
  rw [take_succ8 ls j l h, ixB_append]
  simp [ixB]
theorem endIx_succ (f : Nat) (ls : List (List En)) (j : Nat) (l : List En) (h : ls[j]? = some l) : endIx f (ls.take (j + 1)) = endIx f (ls.take j) + l.length := by
  rw [take_succ8 ls j l h, endIx_append]
  simp [endIx]
theorem okBs_succ (f : Nat) (ls : List (List En)) (j : Nat) (l : List En) (h : ls[j]? = some l) (ho : okBs f (ls.take j)) (he : encBF (endIx f (ls.take j)) l = (encBL (endIx f (ls.take j)) l, 0)) : okBs f (ls.take (j + 1)) := by
  rw [take_succ8 ls j l h, okBs_append]
  exact ⟨ho, he, trivial⟩
theorem frB_small : ∀ (ls : List (List En)) (f : Nat), okBs f ls → (frB f ls).length ≤ 21862 * ls.length
  | [], _, _ => by simp [frB]
  | l :: ls, f, h => by
    obtain ⟨h1, h2⟩ := h
    have := (encBF_small f l _ h1).2
    have ih := frB_small ls (f + l.length) h2
    simp only [frB, List.length_append, FrameMath.laid_length, List.length_cons]
    omega
theorem frB_cons_len (f : Nat) (ls : List (List En)) (j : Nat) (l : List En) (h : ls[j]? = some l) : endN f ls (j + 1) = endN f ls j + ((encBL (endIx f (ls.take j)) l).length + 18) := by
  unfold endN
  rw [frB_succ f ls j l h, List.length_append, FrameMath.laid_length]
  omega

theorem itL : ElT Tryz.prog 61 3 (.int .i64 0) 1 8 := ⟨Tryz.underlying61, by kernel_rfl, rfl, by decide⟩
/-- append of a batch, and where the row lies then -/
theorem wp_appendBt2 {P : Program} {t : TypeId} {w : World} {ops : Array Oper} {rest : List Oper} {o : Oper} {a : Act} {Q : Exit → Act → World → Prop} (et : BtT P t 35) (hg : o.guard = none) (s x : Operand) (hop : o.op = .call { callee := .builtin .append, args := #[s, x], argTypes := #[t, t] })
    (base : Nat) (v : Value) (bs : List BtV) (hs : a.eval s = v) (ho : BL w base v bs) (b : BtV) (ad : Addr) (hx : a.eval x = .slice (some ad) 1 1) (h0 : w.cell? (ad.add 0) = some (.int .u64 b.f)) (h1 : w.cell? (ad.add 1) = some b.val) (hb : BtAt w b) (hlo : base ≤ b.lo) (hord : ∀ d ∈ bs, d.hi ≤ b.lo) (hv : ∀ k, v.ownBlock = some k → k < b.lo) (hlen : ((bs.length + 1) + (bs.length + 1) / 4 + 192) * 32 ≤ 281474976710656) (hbase : base ≤ w.heap.size)
    (h : ∀ v' w', BL w' base v' (bs ++ [b]) → w.grownBy w' v.ownBlock → (v'.ownBlock = v.ownBlock ∨ v'.ownBlock = some w.heap.size) → wpList P ops Q rest (a.put o.dst v') w') : wpList P ops Q (o :: rest) a w := by
  refine wpList_plain hg fun K hK => ?_
  obtain ⟨v', w', hr, g1, g2⟩ := run_appendBt et o.type base v bs ho b ad h0 h1 hb hlo hord hv hlen hbase
  obtain ⟨i, hi, hz, hsz, hby⟩ := info_parts et.info
  have hn : ∀ j u, b.cells[j]? = some u → w.cell? (ad.add j) = some u := fun j u hu => by
    match j, hu with
    | 0, hu => obtain rfl := Option.some.inj hu; exact h0
    | 1, hu => obtain rfl := Option.some.inj hu; exact h1
    | j + 2, hu => simp [BtV.cells] at hu
  have h1c : ∀ u ∈ b.cells, u.oneCell' = true := fun u hu => by
    simp [BtV.cells] at hu
    rcases hu with rfl | rfl <;> rfl
  have h63 : bs.length + 1 ≤ maxLen := by unfold maxLen; omega
  have g4 := append_block (P := P) (w := w) base t o.type 35 i _ 2 32 et.sl hi hz hsz hby v bs.length (bs.flatMap BtV.cells) ho.row ad 1 1 b.cells rfl hn h1c h63 hlen (by decide) v' w' hr
  unfold Oper.wp execOp
  simp only [hop, resolve, invoke, builtin, Sem.run_bind, Sem.run_pure, Result.andThen_ok, List.map_toArray, List.map_cons, List.map_nil, hs, hx, hr]
  exact hK _ _ (h v' w' g1 g2 g4)

/-- what is gathered: the bytes' row vp, the batches' row va, the places' row ve -/
structure LS (w0 wr : World) (P : List UInt8) (vp va ve : Value) (n : Nat) (es : List Value) (bs : List BtV) : Prop where
  p : OB wr w0.heap.size 5 vp P
  ends : wr.ownsRow w0.heap.size 3 1 ve n es
  all : BL wr w0.heap.size va bs
  pe : apartV vp ve
  pa : apartV vp va
  ea : apartV ve va
  pf : ∀ b ∈ bs, ∀ k, vp.ownBlock = some k → k < b.lo ∨ b.hi ≤ k
  ef : ∀ b ∈ bs, ∀ k, ve.ownBlock = some k → k < b.lo ∨ b.hi ≤ k
  below : Below w0.heap.size w0 wr
theorem LS.new {w0 wr wr' : World} {P : List UInt8} {vp va ve : Value} {n : Nat} {es : List Value} {bs : List BtV} (h : LS w0 wr P vp va ve n es bs) (hb : Below wr.heap.size wr wr') : LS w0 wr' P vp va ve n es bs :=
  ⟨h.p.new hb, own_new h.ends hb, h.all.new hb, h.pe, h.pa, h.ea, h.pf, h.ef, below_then h.below hb⟩
theorem apart_fresh8 {w : World} {u v : Value} (hu : ∀ k, u.ownBlock = some k → w.heap.size ≤ k) (hv : ∀ k, v.ownBlock = some k → k < w.heap.size) : apartV u v := by
  by_cases h : u.ownBlock = none
  · exact .inl h
  · refine .inr fun e => ?_
    obtain ⟨k, hk⟩ := Option.ne_none_iff_exists'.1 h
    have := hu k hk
    have := hv k (by rw [← e]; exact hk)
    omega
/-- other bytes -/
theorem LS.setP {w0 wr wr' : World} {P P' : List UInt8} {vp vp' va ve : Value} {n : Nat} {es : List Value} {bs : List BtV} (h : LS w0 wr P vp va ve n es bs) (hn : NewB wr wr' vp' P') : LS w0 wr' P' vp' va ve n es bs := by
  have hb := hn.below
  have h1 : ∀ k, vp'.ownBlock = some k → wr.heap.size ≤ k := fun k hk => (hn.own.at_base k hk).1
  exact ⟨hn.own.mono h.below.size, own_new h.ends hb, h.all.new hb, apart_fresh8 h1 fun k hk => (h.ends.lt k hk).2, apart_fresh8 h1 fun k hk => (h.all.lt k hk).2, h.ea, fun b hm k hk => .inr (Nat.le_trans (h.all.at_ b hm).hi (h1 k hk)), h.ef, below_then h.below hb⟩
/-- a place more -/
theorem LS.app_ends {w0 wr wr' : World} {P : List UInt8} {vp va ve ve' : Value} {n n' : Nat} {es es' : List Value} {bs : List BtV} (h : LS w0 wr P vp va ve n es bs) (ho : wr'.ownsRow w0.heap.size 3 1 ve' n' es') (hg : wr.grownBy wr' ve.ownBlock) (hv : ve'.ownBlock = ve.ownBlock ∨ ve'.ownBlock = some wr.heap.size) : LS w0 wr' P vp va ve' n' es' bs := by
  have hk0 : ∀ k, k < wr.heap.size → (∀ j, ve.ownBlock = some j → k ≠ j) → wr'.heap[k]? = wr.heap[k]? := fun k h1 h2 => hg.block k h1 (fun e => h2 k e.symm rfl)
  have hef' : ∀ b ∈ bs, ∀ k, ve'.ownBlock = some k → k < b.lo ∨ b.hi ≤ k := fun b hm k hk => by
    rcases hv with e | e
    · exact h.ef b hm k (by rw [← e]; exact hk)
    · rw [e] at hk; have := Option.some.inj hk; have := (h.all.at_ b hm).hi; omega
  have hall : BL wr' w0.heap.size va bs := by
    have hat : ∀ b ∈ bs, BtAt wr' b := fun b hm => (h.all.at_ b hm).keep (fun k h1 h2 => hk0 k (Nat.lt_of_lt_of_le h2 (h.all.at_ b hm).hi) (fun j hj e => by have := h.ef b hm j hj; omega)) hg.size
    refine ⟨?_, hat, h.all.lo, h.all.order, h.all.far⟩
    exact h.all.row.kept hg h.ea.symm
  exact ⟨h.p.keep hg h.pe, ho, hall, apart_step h.pe (fun k hk => (h.p.at_base k hk).2) hv, h.pa, (apart_step h.ea.symm (fun k hk => (h.all.lt k hk).2) hv).symm, h.pf, hef', h.below.grown hg h.below.size fun k hk => (h.ends.lt k hk).1⟩
/-- a batch more -/
theorem LS.app_all {w0 wr wr' : World} {P : List UInt8} {vp va va' ve : Value} {n : Nat} {es : List Value} {bs : List BtV} (b : BtV) (h : LS w0 wr P vp va ve n es bs) (ho : BL wr' w0.heap.size va' (bs ++ [b])) (hg : wr.grownBy wr' va.ownBlock) (hv : va'.ownBlock = va.ownBlock ∨ va'.ownBlock = some wr.heap.size)
    (hp : ∀ k, vp.ownBlock = some k → k < b.lo ∨ b.hi ≤ k) (he : ∀ k, ve.ownBlock = some k → k < b.lo ∨ b.hi ≤ k) : LS w0 wr' P vp va' ve n es (bs ++ [b]) := by
  refine ⟨h.p.keep hg h.pa, h.ends.kept hg h.ea, ho, h.pe, apart_step h.pa (fun k hk => (h.p.at_base k hk).2) hv, apart_step h.ea (fun k hk => (h.ends.lt k hk).2) hv, fun d hd => ?_, fun d hd => ?_, h.below.grown hg h.below.size fun k hk => (h.all.lt k hk).1⟩
  · rcases List.mem_append.1 hd with hd | hd
    · exact h.pf d hd
    · rw [List.mem_singleton.1 hd]; exact hp
  · rcases List.mem_append.1 hd with hd | hd
    · exact h.ef d hd
    · rw [List.mem_singleton.1 hd]; exact he
end Go.Proofs.YtpmnnnbkbcpgjaaGreatDoor
