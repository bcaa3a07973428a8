/- Words for arrays of bytes by value: a load and a store of a whole array at any place of a row, a cut of an array, the comparison of two arrays, a copy into an array. -/
import Derived.Test.YtelecdncdaepnaaWords
import Derived.Stop.BytesEq
namespace Go.Proofs.Ytelecdncdaepnaa
open Go.RowKit

/-- the cells of an array of bytes -/
def rB (d : List UInt8) : Array Value := (encB d).toArray
theorem rB_size (d : List UInt8) : (rB d).size = d.length := by simp [rB, encB]
theorem rB_one (d : List UInt8) : (rB d).all (·.oneCell') = true := by
  rw [Array.all_eq_true_iff_forall_mem]
  intro v hv
  exact encB_one d v (by simpa [rB] using hv)
theorem rB_cell (d : List UInt8) : rB d = (d.map Extern.Stop.cell).toArray := by
  unfold rB encB Extern.Stop.cell uB; rfl
theorem addr_at (g o j : Nat) : (⟨g, o, none⟩ : Addr).add j = ⟨g, o + j, none⟩ := by
  unfold Addr.add; split <;> simp_all

theorem szA (w : World) (o : Obj) : (w.alloc o).heap.size = w.heap.size + 1 := by
  show (w.heap.push o).size = _
  simp
theorem encB_drop (n : Nat) (p : List UInt8) : (encB p).drop n = encB (p.drop n) := by unfold encB; rw [List.map_drop]
theorem splice_all {α : Type} (Z c : List α) (h : Z.length = c.length) : splice Z 0 c = c := by
  unfold splice
  rw [List.take_zero, List.nil_append, Nat.zero_add, List.drop_eq_nil_of_le (by omega), List.append_nil]
/-- a row of the heap, known whole -/
structure Row (w : World) (g : Nat) (T : TypeId) (L : List Value) : Prop where
  out : w.heap[g]? = some (.cells L.toArray T (0, 0))
theorem Row.fresh (w : World) (g : Nat) (hg : g = w.heap.size) (T : TypeId) (L : List Value) (C : Array Value) (hC : C = L.toArray) : Row (w.alloc (.cells C T)) g T L := by
  subst hg hC
  exact ⟨heap_alloc_new w _⟩
theorem Row.keep {w w' : World} {g : Nat} {T : TypeId} {L : List Value} (h : Row w g T L) {B : Nat} (hb : Below B w w') (hg : g < B) : Row w' g T L := ⟨(hb.block g hg).trans h.out⟩
theorem Row.lt {w : World} {g : Nat} {T : TypeId} {L : List Value} (h : Row w g T L) : g < w.heap.size := (Array.getElem?_eq_some_iff.1 h.out).1
theorem Row.new {w w' : World} {g : Nat} {T : TypeId} {L : List Value} (h : Row w g T L) (hb : Below w.heap.size w w') : Row w' g T L := h.keep hb h.lt
theorem Row.alloc {w : World} {g : Nat} {T : TypeId} {L : List Value} (h : Row w g T L) (o : Obj) : Row (w.alloc o) g T L := h.new (below_alloc1 (Below.refl _ _) (Nat.le_refl _) o)
theorem Row.grown {w w' : World} {g b : Nat} {T : TypeId} {L : List Value} (h : Row w g T L) (hg : w.grownBy w' (some b)) (hne : g ≠ b) : Row w' g T L := ⟨(hg.block g h.lt (fun e => hne (Option.some.inj e))).trans h.out⟩
theorem Row.set {w : World} {g : Nat} {T : TypeId} {L : List Value} (h : Row w g T L) (j : Nat) (v : Value) (L' : List Value) (hL : L.set j v = L') : Row (w.setCell ⟨g, j, none⟩ v) g T L' := by
  subst hL
  refine ⟨?_⟩
  rw [heap_setCell_same w g j _ T v h.out]
  simp
theorem Row.fz {w : World} {g : Nat} {T : TypeId} {L : List Value} (h : Row w g T L) (j : Nat) : w.frozen? ⟨g, j, none⟩ = false := frozen_of_row _ _ _ _ _ h.out
theorem Row.drew {w : World} {g : Nat} {T : TypeId} {L : List Value} (h : Row w g T L) : Row w.drew g T L := ⟨h.out⟩
theorem Row.cell {w : World} {g : Nat} {T : TypeId} {L : List Value} (h : Row w g T L) (j : Nat) : w.cell? ⟨g, j, none⟩ = L[j]? := by
  rw [cell_of_row w g j _ _ _ h.out]; simp
theorem Row.reads {w : World} {g : Nat} {T : TypeId} {L : List Value} (h : Row w g T L) (X Y : List Value) (d : List UInt8) (hL : L = X ++ (encB d ++ Y)) (off c : Nat) (ho : off = X.length) (hc : d.length ≤ c) (hc' : c ≤ 9223372036854775807) : RB w (some ⟨g, off, none⟩) c d := by
  subst hL ho
  refine ⟨fun _ => ⟨_, rfl, fun i hi => ?_⟩, fun e => absurd e (by simp), hc, hc'⟩
  rw [addr_at, h.cell, List.getElem?_append_right (by omega), Nat.add_sub_cancel_left, List.getElem?_append_left (by simp [encB]; omega)]
  simp [encB, hi]
theorem Row.part {w : World} {g : Nat} {T : TypeId} {L : List Value} (h : Row w g T L) (X Y Z : List Value) (hL : L = X ++ (Z ++ Y)) (off : Nat) (ho : off = X.length) (C : Array Value) (hC : C = Z.toArray) : ∀ j v, C.toList[j]? = some v → w.cell? ((⟨g, off, none⟩ : Addr).add j) = some v := by
  subst hL ho hC
  intro j v hj
  have hl : j < Z.length := by
    have := (List.getElem?_eq_some_iff.1 hj).1
    simpa using this
  rw [addr_at, h.cell, List.getElem?_append_right (by omega), Nat.add_sub_cancel_left, List.getElem?_append_left hl]
  simpa using hj

theorem Row.put {w : World} {g : Nat} {T : TypeId} {L : List Value} (h : Row w g T L) (off : Nat) (cs L' : List Value) (hL : splice L off cs = L') : Row (w.setRow g (splice L.toArray.toList off cs).toArray) g T L' := by
  subst hL
  exact ⟨setRow_heap _ _ _ _ _ _ h.out⟩
theorem row_grown (w : World) (g : Nat) (C : Array Value) : w.grownBy (w.setRow g C) (some g) := ⟨rfl, rfl, rfl, by simp, fun k _ hk => setRow_other _ _ _ _ (fun e => hk (by rw [e]))⟩
section
variable {P : Program} {w : World} {ops : Array Oper} {rest : List Oper} {o : Oper} {a : Act} {Q : Exit → Act → World → Prop}

theorem run_loadVar_part (w : World) (ad : Addr) (ty : TypeId) (cs : Array Value) (d : TypeDesc) (hc : ∀ j v, cs.toList[j]? = some v → w.cell? (ad.add j) = some v)
    (hu : P.underlying ty = some d) (hd : (match d with | .struct _ | .array _ _ => true | _ => false) = true) (hi : (P.info? ty).map (·.size) = some cs.size) :
    (loadVar ty ad).run P w = .ok (.agg cs) w := by
  have hl : (loadCells ad cs.toList.length).run P w = .ok cs.toList.toArray w := run_loadCells_list (P := P) w ad cs.toList hc
  cases hq : P.info? ty with
  | none => simp [hq] at hi
  | some i =>
    have hs : i.size = cs.size := by simpa [hq] using hi
    have hagg : (isAgg ty).run P w = .ok true w := by
      unfold isAgg
      rw [Sem.run_bind, run_underlying hu w]
      cases d <;> simp_all
    simp only [Array.length_toList, Array.toArray_toList] at hl
    simp [loadVar, Sem.run_bind, hagg, sizeOf, typeInfo, hq, hs, hl]

/-- a whole array (or struct) is read from any place -/
theorem wp_load_part (hgd : o.guard = none) (ty : TypeId) (x : Operand) (ho : o.op = .load ty x)
    (ad : Addr) (hx : a.eval x = .pointer (some ad)) (cs : Array Value) (hc : ∀ j v, cs.toList[j]? = some v → w.cell? (ad.add j) = some v) (d : TypeDesc)
    (hu : P.underlying ty = some d) (hd : (match d with | .struct _ | .array _ _ => true | _ => false) = true) (hi : (P.info? ty).map (·.size) = some cs.size)
    (h : wpList P ops Q rest (a.put o.dst (.agg cs)) w) : wpList P ops Q (o :: rest) a w := by
  refine wpList_plain hgd fun K hK => ?_
  unfold Oper.wp execOp
  simp only [ho, hx, Instr.loadAt, Instr.sureAddr, Sem.run_bind, Sem.run_pure, Result.andThen_ok, run_loadVar_part w ad ty cs d hc hu hd hi]
  exact hK _ _ h

theorem wpList_want {o : Oper} {rest : List Oper} {a : Act} {w : World} (hw : Region.wanted o (yielded ops a.tmps) = true) (h : ∀ K, (∀ a w, wpList P ops Q rest a w → K a w) → o.wp P a w K Q) : wpList P ops Q (o :: rest) a w := by
  unfold wpList
  rw [if_pos hw]
  exact .inl (h _ fun _ _ h => h)
theorem wp_load_partW (hgd : Region.wanted o (yielded ops a.tmps) = true) (ty : TypeId) (x : Operand) (ho : o.op = .load ty x)
    (ad : Addr) (hx : a.eval x = .pointer (some ad)) (cs : Array Value) (hc : ∀ j v, cs.toList[j]? = some v → w.cell? (ad.add j) = some v) (d : TypeDesc)
    (hu : P.underlying ty = some d) (hd : (match d with | .struct _ | .array _ _ => true | _ => false) = true) (hi : (P.info? ty).map (·.size) = some cs.size)
    (h : wpList P ops Q rest (a.put o.dst (.agg cs)) w) : wpList P ops Q (o :: rest) a w := by
  refine wpList_want hgd fun K hK => ?_
  unfold Oper.wp execOp
  simp only [ho, hx, Instr.loadAt, Instr.sureAddr, Sem.run_bind, Sem.run_pure, Result.andThen_ok, run_loadVar_part w ad ty cs d hc hu hd hi]
  exact hK _ _ h

theorem run_storeCells_part (g : Nat) (t : TypeId) (off : Nat) : ∀ (vs : List Value) (i : Nat) (cur : Array Value) (w : World), w.heap[g]? = some (.cells cur t (0, 0)) → off + i + vs.length ≤ cur.size → (∀ v ∈ vs, v.oneCell' = true) →
    (storeCells ⟨g, off, none⟩ vs i).run P w = .ok () (w.setRow g (splice cur.toList (off + i) vs).toArray)
  | [], i, cur, w, hg, hl, _ => by
    have := run_storeCells_from (P := P) g t [] cur.size cur w hg (by simp) (by simp)
    rw [show (storeCells ⟨g, off, none⟩ [] i).run P w = .ok () w from rfl]
    rw [show (storeCells ⟨g, 0, none⟩ [] cur.size).run P w = .ok () w from rfl] at this
    rw [this]
    congr 2
    rw [show List.take cur.size cur.toList = cur.toList from List.take_of_length_le (by simp)]
    simp [splice]
  | v :: rest, i, cur, w, hg, hl, h1 => by
    have hi : off + i < cur.size := by simp at hl; omega
    have hadd : (⟨g, off, none⟩ : Addr).add i = ⟨g, off + i, none⟩ := addr_at g off i
    have hcell : w.cell? ⟨g, off + i, none⟩ = some cur[off + i] := by simp [World.cell?, hg, hi]
    have hfro : w.frozen? ⟨g, off + i, none⟩ = false := by simp [World.frozen?, hg]
    have hst : (store ((⟨g, off, none⟩ : Addr).add i) v).run P w = .ok () (w.setRow g (cur.setIfInBounds (off + i) v)) := by
      rw [hadd, run_store P w _ v _ (h1 v (by simp)), hcell]
      simp [hfro, setCell_eq_setRow w g (off + i) cur t (0, 0) v hg]
    have ih := run_storeCells_part g t off rest (i + 1) (cur.setIfInBounds (off + i) v) (w.setRow g (cur.setIfInBounds (off + i) v)) (setRow_heap w g cur _ t _ hg) (by simp at hl ⊢; omega) (fun x hx => h1 x (by simp [hx]))
    simp only [storeCells, Sem.run_bind, hst, Result.andThen_ok, ih, setRow_setRow]
    congr 3
    apply List.ext_getElem?
    intro k
    simp only [splice, Array.toList_setIfInBounds, List.getElem?_append, List.length_take, List.length_set, Array.length_toList, List.length_cons, List.getElem?_take, List.getElem?_drop, List.getElem?_cons, List.getElem?_set]
    simp only [List.length_cons] at hl
    by_cases hk : k < off + i
    · simp [hk, show k < off + (i + 1) by omega, show min (off + (i + 1)) cur.size = off + (i + 1) by omega, show min (off + i) cur.size = off + i by omega, show off + i ≠ k by omega]
    · by_cases hk2 : k = off + i
      · subst hk2
        simp [show off + i < off + (i + 1) by omega, show min (off + (i + 1)) cur.size = off + (i + 1) by omega, show min (off + i) cur.size = off + i by omega, hi]
      · have e1 : k - (off + i) = (k - (off + (i + 1))) + 1 := by omega
        simp [hk, show ¬ k < off + (i + 1) by omega, show min (off + (i + 1)) cur.size = off + (i + 1) by omega, show min (off + i) cur.size = off + i by omega, e1]
        by_cases h3 : k - (off + (i + 1)) < rest.length
        · simp [h3]
        · simp [h3]
          rw [if_neg (by omega)]
          congr 1
          omega
/-- a whole array (or struct) is written at any place of a row -/
theorem wp_store_part (hgd : o.guard = none) (ty : TypeId) (x y : Operand) (ho : o.op = .store ty x y)
    (g off : Nat) (cells : Array Value) (hx : a.eval x = .pointer (some ⟨g, off, none⟩)) (hy : a.eval y = .agg cells)
    (t : TypeId) (old : Array Value) (hg : w.heap[g]? = some (.cells old t (0, 0))) (hi : (P.info? ty).map (·.size) = some cells.size)
    (hold : off + cells.size ≤ old.size) (h1 : cells.all (·.oneCell') = true)
    (h : wpList P ops Q rest (a.put o.dst undef) (w.setRow g (splice old.toList off cells.toList).toArray)) : wpList P ops Q (o :: rest) a w := by
  refine wpList_plain hgd fun K hK => ?_
  have hrun := run_storeCells_part (P := P) g t off cells.toList 0 old w hg (by simpa using hold) (fun v hv => (Array.all_eq_true_iff_forall_mem.1 h1) v (by simpa using hv))
  rw [Nat.add_zero] at hrun
  have hsv : (storeVar ty ⟨g, off, none⟩ (.agg cells)).run P w = .ok () (w.setRow g (splice old.toList off cells.toList).toArray) := by
    cases hq : P.info? ty with
    | none => simp [hq] at hi
    | some i =>
      have hs : cells.size = i.size := by simp [hq] at hi; omega
      simp [storeVar, sizeOf, typeInfo, hq, Value.cells, hs, hrun]
  unfold Oper.wp execOp
  simp only [ho, hx, hy, Instr.storeAt, Instr.sureAddr, Sem.run_bind, Sem.run_pure, Result.andThen_ok, hsv]
  exact hK _ _ h

/-- d[:h] of an array -/
theorem run_cut_arr (w : World) (t e : TypeId) (N : Nat) (hu : P.underlying t = some (.array N e)) (hsz : (P.info? e).map (·.size) = some 1) (ad : Addr) (k : IntKind) (H : Int) (n : Nat) (hH : H = n) (hn : n ≤ N) :
    (Instr.sliceAt t (.pointer (some ad)) none (some (.int k H)) none).run P w = .ok (.slice (some ad) n N) w := by
  have hu' : P.underlying t = some (.array (P.arrayLen t) (P.elem t)) := by simp [Program.arrayLen, Program.elem, hu]
  have hN : P.arrayLen t = N := by simp [Program.arrayLen, hu]
  have hE : P.elem t = e := by simp [Program.elem, hu]
  have hrun := run_sliceAt_array_h (P := P) w t ad hu' k H (by omega) (by rw [hN]; omega)
  have hs : (sizeOf e).run P w = .ok 1 w := by
    cases hq : P.info? e with
    | none => simp [hq] at hsz
    | some i =>
      have : i.size = 1 := by simpa [hq] using hsz
      simp [sizeOf, typeInfo, hq, this]
  have h0 : ad.add 0 = ad := by cases ad; simp [Addr.add]
  have hv : slicedAt ad 0 H.toNat N 1 = .slice (some ad) n N := by
    subst hH
    simp [slicedAt, h0]
  rw [hE, hN, hs, Result.andThen_ok, hv] at hrun
  exact hrun
/-- d[:] of an array -/
theorem run_all_arr (w : World) (t e : TypeId) (N : Nat) (hu : P.underlying t = some (.array N e)) (hsz : (P.info? e).map (·.size) = some 1) (ad : Addr) :
    (Instr.sliceAt t (.pointer (some ad)) none none none).run P w = .ok (.slice (some ad) N N) w := by
  have hu' : P.underlying t = some (.array (P.arrayLen t) (P.elem t)) := by simp [Program.arrayLen, Program.elem, hu]
  have hN : P.arrayLen t = N := by simp [Program.arrayLen, hu]
  have hE : P.elem t = e := by simp [Program.elem, hu]
  have hrun := run_sliceAt_array_all (P := P) w t ad hu'
  have hs : (sizeOf e).run P w = .ok 1 w := by
    cases hq : P.info? e with
    | none => simp [hq] at hsz
    | some i =>
      have : i.size = 1 := by simpa [hq] using hsz
      simp [sizeOf, typeInfo, hq, this]
  have h0 : ad.add 0 = ad := by cases ad; simp [Addr.add]
  have hv : slicedAt ad 0 N N 1 = .slice (some ad) N N := by simp [slicedAt, h0]
  rw [hE, hN, hs, Result.andThen_ok, hv] at hrun
  exact hrun
theorem run_sizeOf (e : TypeId) (n : Nat) (hsz : (P.info? e).map (·.size) = some n) (w : World) : (sizeOf e).run P w = .ok n w := by
  cases hq : P.info? e with
  | none => simp [hq] at hsz
  | some i =>
    have : i.size = n := by simpa [hq] using hsz
    simp [sizeOf, typeInfo, hq, this]
/-- copy into a part of a row, as one step of a region that draws: nothing but that row changes -/
theorem step_copy_part {K : Act → World → Prop} {E : Prop} (hgd : o.guard = none) (d s : Operand) (dT sT : TypeId)
    (ho : o.op = .call { callee := .builtin .copy, args := #[d, s], argTypes := #[dT, sT] }) (elem : TypeId) (hu : P.underlying dT = some (.slice elem)) (hsz : (P.info? elem).map (·.size) = some 1)
    (g off dLen dCap sLen sCap : Nat) (sp : Option Addr) (hd : a.eval d = .slice (some ⟨g, off, none⟩) dLen dCap) (hs : a.eval s = .slice sp sLen sCap)
    (cur : List Value) (t : TypeId) (hg : Row w g t cur) (q : List UInt8) (hn : q.length = sLen) (hm : sLen ≤ dLen) (hq : RB w sp sCap q)
    (hfit : off + q.length ≤ cur.length) (new : List Value) (hnew : splice cur off (encB q) = new)
    (h : ∀ w', Row w' g t new → w.grownBy w' (some g) → K (a.put o.dst (goInt q.length)) w') :
    if Region.wanted o (yielded ops a.tmps) = true then Oper.wp P o a w K Q else E := by
  have hw : Region.wanted o (yielded ops a.tmps) = true := by simp [Region.wanted, hgd]
  rw [if_pos hw]
  subst hnew
  have hmin : q.length = Nat.min sLen dLen := by show q.length = min sLen dLen; omega
  by_cases h0 : q.length = 0
  · have hrun := run_copy_none (P := P) w dT sT o.type elem (some ⟨g, off, none⟩) sp dLen dCap sLen sCap hu hsz (by rw [← hmin]; exact h0)
    unfold Oper.wp
    simp [execOp, ho, resolve, invoke, builtin, hd, hs, hrun, Result.andThen]
    obtain rfl : q = [] := List.eq_nil_of_length_eq_zero h0
    exact h w (by simpa [splice, encB] using hg) ⟨rfl, rfl, rfl, Nat.le_refl _, fun _ _ _ => rfl⟩
  · cases sp with
    | none => obtain ⟨_, rfl⟩ := hq.nil rfl; exact absurd rfl h0
    | some ad =>
      have hrun := run_copy_row (P := P) w dT sT o.type elem g off dLen dCap ad sLen sCap cur.toArray t (encB q) hu hsz hg.out (by rw [encB_length]; exact hmin) hq.cells (by rw [encB_length]; simpa using hfit) (encB_one q)
      unfold Oper.wp
      simp [execOp, ho, resolve, invoke, builtin, hd, hs, hrun, Result.andThen]
      have hh := h (w.setRow g (splice cur off (encB q)).toArray) ⟨setRow_heap w g _ _ t _ hg.out⟩ ⟨rfl, rfl, rfl, by simp, fun k _ hk => setRow_other _ _ _ _ (fun e => hk (by rw [e]))⟩
      have hh2 : K (a.put o.dst (goInt q.length)) (w.setRow g (cur.take off ++ (encB q ++ cur.drop (off + q.length))).toArray) := by simpa [splice, encB_length] using hh
      simp [encB_length]
      exact hh2
theorem wpList_copy_part (hgd : o.guard = none) (d s : Operand) (dT sT : TypeId)
    (ho : o.op = .call { callee := .builtin .copy, args := #[d, s], argTypes := #[dT, sT] }) (elem : TypeId) (hu : P.underlying dT = some (.slice elem)) (hsz : (P.info? elem).map (·.size) = some 1)
    (g off dLen dCap sLen sCap : Nat) (sp : Option Addr) (hd : a.eval d = .slice (some ⟨g, off, none⟩) dLen dCap) (hs : a.eval s = .slice sp sLen sCap)
    (cur : List Value) (t : TypeId) (hg : Row w g t cur) (q : List UInt8) (hn : q.length = sLen) (hm : sLen ≤ dLen) (hq : RB w sp sCap q)
    (hfit : off + q.length ≤ cur.length) (new : List Value) (hnew : splice cur off (encB q) = new)
    (h : ∀ w', Row w' g t new → w.grownBy w' (some g) → wpList P ops Q rest (a.put o.dst (goInt q.length)) w') : wpList P ops Q (o :: rest) a w := by
  have hw : Region.wanted o (yielded ops a.tmps) = true := by simp [Region.wanted, hgd]
  refine wpList_want hw fun K hK => ?_
  have := step_copy_part (P := P) (ops := ops) (K := K) (Q := Q) (E := True) hgd d s dT sT ho elem hu hsz g off dLen dCap sLen sCap sp hd hs cur t hg q hn hm hq hfit new hnew (fun w' h1 h2 => hK _ _ (h w' h1 h2))
  rwa [if_pos hw] at this
/-- a whole array (or struct) is written, as one step of a region that draws -/
theorem step_store_part {K : Act → World → Prop} {E : Prop} (hgd : o.guard = none) (ty : TypeId) (x y : Operand) (ho : o.op = .store ty x y)
    (g off : Nat) (cells : Array Value) (hx : a.eval x = .pointer (some ⟨g, off, none⟩)) (hy : a.eval y = .agg cells)
    (t : TypeId) (old : Array Value) (hg : w.heap[g]? = some (.cells old t (0, 0))) (hi : (P.info? ty).map (·.size) = some cells.size)
    (hold : off + cells.size ≤ old.size) (h1 : cells.all (·.oneCell') = true)
    (h : K (a.put o.dst undef) (w.setRow g (splice old.toList off cells.toList).toArray)) :
    if Region.wanted o (yielded ops a.tmps) = true then Oper.wp P o a w K Q else E := by
  have hw : Region.wanted o (yielded ops a.tmps) = true := by simp [Region.wanted, hgd]
  rw [if_pos hw]
  have hrun := run_storeCells_part (P := P) g t off cells.toList 0 old w hg (by simpa using hold) (fun v hv => (Array.all_eq_true_iff_forall_mem.1 h1) v (by simpa using hv))
  rw [Nat.add_zero] at hrun
  have hsv : (storeVar ty ⟨g, off, none⟩ (.agg cells)).run P w = .ok () (w.setRow g (splice old.toList off cells.toList).toArray) := by
    cases hq : P.info? ty with
    | none => simp [hq] at hi
    | some i =>
      have hs : cells.size = i.size := by simp [hq] at hi; omega
      simp [storeVar, sizeOf, typeInfo, hq, Value.cells, hs, hrun]
  unfold Oper.wp execOp
  simp only [ho, hx, hy, Instr.storeAt, Instr.sureAddr, Sem.run_bind, Sem.run_pure, Result.andThen_ok, hsv]
  exact h
/-- a guard for the arms of a walk: the next operation is op -/
theorem wp_op_is (op : Op) (_h : o.op = op) (k : wpList P ops Q (o :: rest) a w) : wpList P ops Q (o :: rest) a w := k
theorem wp_fieldAt (hgd : o.guard = none) (t : TypeId) (x : Operand) (i : Nat) (ho : o.op = .fieldAddr t x i)
    (g off : Nat) (hx : a.eval x = .pointer (some ⟨g, 0, none⟩)) (hrun : ∀ w : World, (Instr.fieldAt t (.pointer (some ⟨g, 0, none⟩)) i).run P w = .ok (.pointer (some ⟨g, off, none⟩)) w)
    (h : wpList P ops Q rest (a.put o.dst (.pointer (some ⟨g, off, none⟩))) w) : wpList P ops Q (o :: rest) a w := by
  refine wpList_plain hgd fun K hK => ?_
  unfold Oper.wp execOp
  simp only [ho, hx, hrun, Sem.run_bind, Sem.run_pure, Result.andThen_ok]
  exact hK _ _ h
/-- two arrays of bytes compared -/
theorem run_eqlB (w : World) (t e : TypeId) (n : Nat) (ht : P.underlying t = some (.array n e)) (he : P.underlying e = some (.int .u8)) (hsz : (P.info? e).map (·.size) = some 1) (p q : List UInt8) (hp : p.length = n) (hq : q.length = n) :
    (binOp .eql t (.agg (rB p)) (.agg (rB q))).run P w = .ok (.bool (decide (p = q))) w := by
  have hs : ∀ w, (sizeOf e).run P w = .ok 1 w := by
    intro w
    cases hq : P.info? e with
    | none => simp [hq] at hsz
    | some i =>
      have : i.size = 1 := by simpa [hq] using hsz
      simp [sizeOf, typeInfo, hq, this]
  rw [rB_cell, rB_cell, run_eql_bytes w t e n ht he hs p q hp hq]
  congr 2
  by_cases h : p = q <;> simp [h]
end
end Go.Proofs.Ytelecdncdaepnaa
