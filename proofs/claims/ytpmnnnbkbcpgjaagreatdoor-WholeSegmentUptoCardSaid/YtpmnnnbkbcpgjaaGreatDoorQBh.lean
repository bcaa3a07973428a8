import Derived.Test.YtpmnnnbkbcpgjaaGreatDoorQBa
import Derived.Stop.BytesEq
import Derived.Test.YtpmnnnbkbcpgjaaGreatDoorQBc
import Derived.Test.YtpmnnnbkbcpgjaaGreatDoorQBe
import Derived.Test.YtpmnnnbkbcpgjaaGreatDoorQBd
import Derived.Deep.DeepAppendWide
import Derived.Maps.AppendAt
import Derived.Test.YtpmnnnbkbcpgjaaGreatDoorQBb
import Derived.Lib.SmallJoins
import Derived.Test.YtpmnnnbkbcpgjaaGreatDoorQBf
/- Words for arrays of bytes by value: a load and a store of a whole array at any place of a row, a cut of an array, the comparison of two arrays, a copy into an array. -/
namespace Go.Proofs.YtpmnnnbkbcpgjaaGreatDoor
open Go.RowKit

/-- the cells of an array of bytes -/
def rB (d : List UInt8) : Array Value := (encB d).toArray
theorem rB_size (d : List UInt8) : (rB d).size = d.length := by simp [rB, encB]
theorem rB_one (d : List UInt8) : (rB d).all (·.oneCell') = true := by
  rw [Array.all_eq_true_iff_forall_mem]
  intro v hv
  exact encB_one d v (by simpa [rB] using hv)
theorem rB_cell (d : List UInt8) : rB d = (d.map Extern.Stop.cell).toArray := by
  unfold rB encB Extern.Stop.cell uB; rfl
theorem addr_at (g o j : Nat) : (⟨g, o, none⟩ : Addr).add j = ⟨g, o + j, none⟩ := by
  unfold Addr.add; split <;> simp_all

theorem szA (w : World) (o : Obj) : (w.alloc o).heap.size = w.heap.size + 1 := by
  show (w.heap.push o).size = _
  simp
theorem encB_drop (n : Nat) (p : List UInt8) : (encB p).drop n = encB (p.drop n) := by unfold encB; rw [List.map_drop]
theorem splice_all {α : Type} (Z c : List α) (h : Z.length = c.length) : splice Z 0 c = c := by
  unfold splice
  rw [List.take_zero, List.nil_append, Nat.zero_add, List.drop_eq_nil_of_le (by omega), List.append_nil]
/-- a row of the heap, known whole -/
structure Row (w : World) (g : Nat) (T : TypeId) (L : List Value) : Prop where
  out : w.heap[g]? = some (.cells L.toArray T (0, 0))
theorem Row.fresh (w : World) (g : Nat) (hg : g = w.heap.size) (T : TypeId) (L : List Value) (C : Array Value) (hC : C = L.toArray) : Row (w.alloc (.cells C T)) g T L := by
  subst hg hC
  exact ⟨heap_alloc_new w _⟩
theorem Row.keep {w w' : World} {g : Nat} {T : TypeId} {L : List Value} (h : Row w g T L) {B : Nat} (hb : Below B w w') (hg : g < B) : Row w' g T L := ⟨(hb.block g hg).trans h.out⟩
theorem Row.lt {w : World} {g : Nat} {T : TypeId} {L : List Value} (h : Row w g T L) : g < w.heap.size := (Array.getElem?_eq_some_iff.1 h.out).1
theorem Row.new {w w' : World} {g : Nat} {T : TypeId} {L : List Value} (h : Row w g T L) (hb : Below w.heap.size w w') : Row w' g T L := h.keep hb h.lt
theorem Row.alloc {w : World} {g : Nat} {T : TypeId} {L : List Value} (h : Row w g T L) (o : Obj) : Row (w.alloc o) g T L := h.new (below_alloc1 (Below.refl _ _) (Nat.le_refl _) o)
theorem Row.grown {w w' : World} {g b : Nat} {T : TypeId} {L : List Value} (h : Row w g T L) (hg : w.grownBy w' (some b)) (hne : g ≠ b) : Row w' g T L := ⟨(hg.block g h.lt (fun e => hne (Option.some.inj e))).trans h.out⟩
theorem Row.set {w : World} {g : Nat} {T : TypeId} {L : List Value} (h : Row w g T L) (j : Nat) (v : Value) (L' : List Value) (hL : L.set j v = L') : Row (w.setCell ⟨g, j, none⟩ v) g T L' := by
  subst hL
  refine ⟨?_⟩
  rw [heap_setCell_same w g j _ T v h.out]
  simp
theorem Row.fz {w : World} {g : Nat} {T : TypeId} {L : List Value} (h : Row w g T L) (j : Nat) : w.frozen? ⟨g, j, none⟩ = false := frozen_of_row _ _ _ _ _ h.out
theorem Row.drew {w : World} {g : Nat} {T : TypeId} {L : List Value} (h : Row w g T L) : Row w.drew g T L := ⟨h.out⟩
theorem Row.cell {w : World} {g : Nat} {T : TypeId} {L : List Value} (h : Row w g T L) (j : Nat) : w.cell? ⟨g, j, none⟩ = L[j]? := by
  rw [cell_of_row w g j _ _ _ h.out]; simp
theorem Row.reads {w : World} {g : Nat} {T : TypeId} {L : List Value} (h : Row w g T L) (X Y : List Value) (d : List UInt8) (hL : L = X ++ (encB d ++ Y)) (off c : Nat) (ho : off = X.length) (hc : d.length ≤ c) (hc' : c ≤ 9223372036854775807) : RB w (some ⟨g, off, none⟩) c d := by
  subst hL ho
  refine ⟨fun _ => ⟨_, rfl, fun i hi => ?_⟩, fun e => absurd e (by simp), hc, hc'⟩
  rw [addr_at, h.cell, List.getElem?_append_right (by omega), Nat.add_sub_cancel_left, List.getElem?_append_left (by simp [encB]; omega)]
  simp [encB, hi]
theorem Row.part {w : World} {g : Nat} {T : TypeId} {L : List Value} (h : Row w g T L) (X Y Z : List Value) (hL : L = X ++ (Z ++ Y)) (off : Nat) (ho : off = X.length) (C : Array Value) (hC : C = Z.toArray) : ∀ j v, C.toList[j]? = some v → w.cell? ((⟨g, off, none⟩ : Addr).add j) = some v := by
  subst hL ho hC
  intro j v hj
  have hl : j < Z.length := by
    have := (List.getElem?_eq_some_iff.1 hj).1
    simpa using this
  rw [addr_at, h.cell, List.getElem?_append_right (by omega), Nat.add_sub_cancel_left, List.getElem?_append_left hl]
  simpa using hj

theorem Row.put {w : World} {g : Nat} {T : TypeId} {L : List Value} (h : Row w g T L) (off : Nat) (cs L' : List Value) (hL : splice L off cs = L') : Row (w.setRow g (splice L.toArray.toList off cs).toArray) g T L' := by
  subst hL
  exact ⟨setRow_heap _ _ _ _ _ _ h.out⟩
theorem row_grown (w : World) (g : Nat) (C : Array Value) : w.grownBy (w.setRow g C) (some g) := ⟨rfl, rfl, rfl, by simp, fun k _ hk => setRow_other _ _ _ _ (fun e => hk (by rw [e]))⟩
section
variable {P : Program} {w : World} {ops : Array Oper} {rest : List Oper} {o : Oper} {a : Act} {Q : Exit → Act → World → Prop}

theorem run_loadVar_part (w : World) (ad : Addr) (ty : TypeId) (cs : Array Value) (d : TypeDesc) (hc : ∀ j v, cs.toList[j]? = some v → w.cell? (ad.add j) = some v)
    (hu : P.underlying ty = some d) (hd : (match d with | .struct _ | .array _ _ => true | _ => false) = true) (hi : (P.info? ty).map (·.size) = some cs.size) :
    (loadVar ty ad).run P w = .ok (.agg cs) w := by
  have hl : (loadCells ad cs.toList.length).run P w = .ok cs.toList.toArray w := run_loadCells_list (P := P) w ad cs.toList hc
  cases hq : P.info? ty with
  | none => simp [hq] at hi
  | some i =>
    have hs : i.size = cs.size := by simpa [hq] using hi
    have hagg : (isAgg ty).run P w = .ok true w := by
      unfold isAgg
      rw [Sem.run_bind, run_underlying hu w]
      cases d <;> simp_all
    simp only [Array.length_toList, Array.toArray_toList] at hl
    simp [loadVar, Sem.run_bind, hagg, sizeOf, typeInfo, hq, hs, hl]

/-- a whole array (or struct) is read from any place -/
theorem wp_load_part (hgd : o.guard = none) (ty : TypeId) (x : Operand) (ho : o.op = .load ty x)
    (ad : Addr) (hx : a.eval x = .pointer (some ad)) (cs : Array Value) (hc : ∀ j v, cs.toList[j]? = some v → w.cell? (ad.add j) = some v) (d : TypeDesc)
    (hu : P.underlying ty = some d) (hd : (match d with | .struct _ | .array _ _ => true | _ => false) = true) (hi : (P.info? ty).map (·.size) = some cs.size)
    (h : wpList P ops Q rest (a.put o.dst (.agg cs)) w) : wpList P ops Q (o :: rest) a w := by
  refine wpList_plain hgd fun K hK => ?_
  unfold Oper.wp execOp
  simp only [ho, hx, Instr.loadAt, Instr.sureAddr, Sem.run_bind, Sem.run_pure, Result.andThen_ok, run_loadVar_part w ad ty cs d hc hu hd hi]
  exact hK _ _ h

theorem wpList_want {o : Oper} {rest : List Oper} {a : Act} {w : World} (hw : Region.wanted o (yielded ops a.tmps) = true) (h : ∀ K, (∀ a w, wpList P ops Q rest a w → K a w) → o.wp P a w K Q) : wpList P ops Q (o :: rest) a w := by
  unfold wpList
  rw [if_pos hw]
  exact .inl (h _ fun _ _ h => h)
theorem wp_load_partW (hgd : Region.wanted o (yielded ops a.tmps) = true) (ty : TypeId) (x : Operand) (ho : o.op = .load ty x)
    (ad : Addr) (hx : a.eval x = .pointer (some ad)) (cs : Array Value) (hc : ∀ j v, cs.toList[j]? = some v → w.cell? (ad.add j) = some v) (d : TypeDesc)
    (hu : P.underlying ty = some d) (hd : (match d with | .struct _ | .array _ _ => true | _ => false) = true) (hi : (P.info? ty).map (·.size) = some cs.size)
    (h : wpList P ops Q rest (a.put o.dst (.agg cs)) w) : wpList P ops Q (o :: rest) a w := by
  refine wpList_want hgd fun K hK => ?_
  unfold Oper.wp execOp
  simp only [ho, hx, Instr.loadAt, Instr.sureAddr, Sem.run_bind, Sem.run_pure, Result.andThen_ok, run_loadVar_part w ad ty cs d hc hu hd hi]
  exact hK _ _ h

theorem run_storeCells_part (g : Nat) (t : TypeId) (off : Nat) : ∀ (vs : List Value) (i : Nat) (cur : Array Value) (w : World), w.heap[g]? = some (.cells cur t (0, 0)) → off + i + vs.length ≤ cur.size → (∀ v ∈ vs, v.oneCell' = true) →
    (storeCells ⟨g, off, none⟩ vs i).run P w = .ok () (w.setRow g (splice cur.toList (off + i) vs).toArray)
  | [], i, cur, w, hg, hl, _ => by
    have := run_storeCells_from (P := P) g t [] cur.size cur w hg (by simp) (by simp)
    rw [show (storeCells ⟨g, off, none⟩ [] i).run P w = .ok () w from rfl]
    rw [show (storeCells ⟨g, 0, none⟩ [] cur.size).run P w = .ok () w from rfl] at this
    rw [this]
    congr 2
    rw [show List.take cur.size cur.toList = cur.toList from List.take_of_length_le (by simp)]
    simp [splice]
  | v :: rest, i, cur, w, hg, hl, h1 => by
    have hi : off + i < cur.size := by simp at hl; omega
    have hadd : (⟨g, off, none⟩ : Addr).add i = ⟨g, off + i, none⟩ := addr_at g off i
    have hcell : w.cell? ⟨g, off + i, none⟩ = some cur[off + i] := by simp [World.cell?, hg, hi]
    have hfro : w.frozen? ⟨g, off + i, none⟩ = false := by simp [World.frozen?, hg]
    have hst : (store ((⟨g, off, none⟩ : Addr).add i) v).run P w = .ok () (w.setRow g (cur.setIfInBounds (off + i) v)) := by
      rw [hadd, run_store P w _ v _ (h1 v (by simp)), hcell]
      simp [hfro, setCell_eq_setRow w g (off + i) cur t (0, 0) v hg]
    have ih := run_storeCells_part g t off rest (i + 1) (cur.setIfInBounds (off + i) v) (w.setRow g (cur.setIfInBounds (off + i) v)) (setRow_heap w g cur _ t _ hg) (by simp at hl ⊢; omega) (fun x hx => h1 x (by simp [hx]))
    simp only [storeCells, Sem.run_bind, hst, Result.andThen_ok, ih, setRow_setRow]
    congr 3
    apply List.ext_getElem?
    intro k
    simp only [splice, Array.toList_setIfInBounds, List.getElem?_append, List.length_take, List.length_set, Array.length_toList, List.length_cons, List.getElem?_take, List.getElem?_drop, List.getElem?_cons, List.getElem?_set]
    simp only [List.length_cons] at hl
    by_cases hk : k < off + i
    · simp [hk, show k < off + (i + 1) by omega, show min (off + (i + 1)) cur.size = off + (i + 1) by omega, show min (off + i) cur.size = off + i by omega, show off + i ≠ k by omega]
    · by_cases hk2 : k = off + i
      · subst hk2
        simp [show off + i < off + (i + 1) by omega, show min (off + (i + 1)) cur.size = off + (i + 1) by omega, show min (off + i) cur.size = off + i by omega, hi]
      · have e1 : k - (off + i) = (k - (off + (i + 1))) + 1 := by omega
        simp [hk, show ¬ k < off + (i + 1) by omega, show min (off + (i + 1)) cur.size = off + (i + 1) by omega, show min (off + i) cur.size = off + i by omega, e1]
        by_cases h3 : k - (off + (i + 1)) < rest.length
        · simp [h3]
        · simp [h3]
          rw [if_neg (by omega)]
          congr 1
          omega
/-- a whole array (or struct) is written at any place of a row -/
theorem wp_store_part (hgd : o.guard = none) (ty : TypeId) (x y : Operand) (ho : o.op = .store ty x y)
    (g off : Nat) (cells : Array Value) (hx : a.eval x = .pointer (some ⟨g, off, none⟩)) (hy : a.eval y = .agg cells)
    (t : TypeId) (old : Array Value) (hg : w.heap[g]? = some (.cells old t (0, 0))) (hi : (P.info? ty).map (·.size) = some cells.size)
    (hold : off + cells.size ≤ old.size) (h1 : cells.all (·.oneCell') = true)
    (h : wpList P ops Q rest (a.put o.dst undef) (w.setRow g (splice old.toList off cells.toList).toArray)) : wpList P ops Q (o :: rest) a w := by
  refine wpList_plain hgd fun K hK => ?_
  have hrun := run_storeCells_part (P := P) g t off cells.toList 0 old w hg (by simpa using hold) (fun v hv => (Array.all_eq_true_iff_forall_mem.1 h1) v (by simpa using hv))
  rw [Nat.add_zero] at hrun
  have hsv : (storeVar ty ⟨g, off, none⟩ (.agg cells)).run P w = .ok () (w.setRow g (splice old.toList off cells.toList).toArray) := by
    cases hq : P.info? ty with
    | none => simp [hq] at hi
    | some i =>
      have hs : cells.size = i.size := by simp [hq] at hi; omega
      simp [storeVar, sizeOf, typeInfo, hq, Value.cells, hs, hrun]
  unfold Oper.wp execOp
  simp only [ho, hx, hy, Instr.storeAt, Instr.sureAddr, Sem.run_bind, Sem.run_pure, Result.andThen_ok, hsv]
  exact hK _ _ h

/-- d[:h] of an array -/
theorem run_cut_arr (w : World) (t e : TypeId) (N : Nat) (hu : P.underlying t = some (.array N e)) (hsz : (P.info? e).map (·.size) = some 1) (ad : Addr) (k : IntKind) (H : Int) (n : Nat) (hH : H = n) (hn : n ≤ N) :
    (Instr.sliceAt t (.pointer (some ad)) none (some (.int k H)) none).run P w = .ok (.slice (some ad) n N) w := by
  have hu' : P.underlying t = some (.array (P.arrayLen t) (P.elem t)) := by simp [Program.arrayLen, Program.elem, hu]
  have hN : P.arrayLen t = N := by simp [Program.arrayLen, hu]
  have hE : P.elem t = e := by simp [Program.elem, hu]
  have hrun := run_sliceAt_array_h (P := P) w t ad hu' k H (by omega) (by rw [hN]; omega)
  have hs : (sizeOf e).run P w = .ok 1 w := by
    cases hq : P.info? e with
    | none => simp [hq] at hsz
    | some i =>
      have : i.size = 1 := by simpa [hq] using hsz
      simp [sizeOf, typeInfo, hq, this]
  have h0 : ad.add 0 = ad := by cases ad; simp [Addr.add]
  have hv : slicedAt ad 0 H.toNat N 1 = .slice (some ad) n N := by
    subst hH
    simp [slicedAt, h0]
  rw [hE, hN, hs, Result.andThen_ok, hv] at hrun
  exact hrun
/-- d[:] of an array -/
theorem run_all_arr (w : World) (t e : TypeId) (N : Nat) (hu : P.underlying t = some (.array N e)) (hsz : (P.info? e).map (·.size) = some 1) (ad : Addr) :
    (Instr.sliceAt t (.pointer (some ad)) none none none).run P w = .ok (.slice (some ad) N N) w := by
  have hu' : P.underlying t = some (.array (P.arrayLen t) (P.elem t)) := by simp [Program.arrayLen, Program.elem, hu]
  have hN : P.arrayLen t = N := by simp [Program.arrayLen, hu]
  have hE : P.elem t = e := by simp [Program.elem, hu]
  have hrun := run_sliceAt_array_all (P := P) w t ad hu'
  have hs : (sizeOf e).run P w = .ok 1 w := by
    cases hq : P.info? e with
    | none => simp [hq] at hsz
    | some i =>
      have : i.size = 1 := by simpa [hq] using hsz
      simp [sizeOf, typeInfo, hq, this]
  have h0 : ad.add 0 = ad := by cases ad; simp [Addr.add]
  have hv : slicedAt ad 0 N N 1 = .slice (some ad) N N := by simp [slicedAt, h0]
  rw [hE, hN, hs, Result.andThen_ok, hv] at hrun
  exact hrun
theorem run_sizeOf (e : TypeId) (n : Nat) (hsz : (P.info? e).map (·.size) = some n) (w : World) : (sizeOf e).run P w = .ok n w := by
  cases hq : P.info? e with
  | none => simp [hq] at hsz
  | some i =>
    have : i.size = n := by simpa [hq] using hsz
    simp [sizeOf, typeInfo, hq, this]
/-- copy into a part of a row, as one step of a region that draws: nothing but that row changes -/
theorem step_copy_part {K : Act → World → Prop} {E : Prop} (hgd : o.guard = none) (d s : Operand) (dT sT : TypeId)
    (ho : o.op = .call { callee := .builtin .copy, args := #[d, s], argTypes := #[dT, sT] }) (elem : TypeId) (hu : P.underlying dT = some (.slice elem)) (hsz : (P.info? elem).map (·.size) = some 1)
    (g off dLen dCap sLen sCap : Nat) (sp : Option Addr) (hd : a.eval d = .slice (some ⟨g, off, none⟩) dLen dCap) (hs : a.eval s = .slice sp sLen sCap)
    (cur : List Value) (t : TypeId) (hg : Row w g t cur) (q : List UInt8) (hn : q.length = sLen) (hm : sLen ≤ dLen) (hq : RB w sp sCap q)
    (hfit : off + q.length ≤ cur.length) (new : List Value) (hnew : splice cur off (encB q) = new)
    (h : ∀ w', Row w' g t new → w.grownBy w' (some g) → K (a.put o.dst (goInt q.length)) w') :
    if Region.wanted o (yielded ops a.tmps) = true then Oper.wp P o a w K Q else E := by
  have hw : Region.wanted o (yielded ops a.tmps) = true := by simp [Region.wanted, hgd]
  rw [if_pos hw]
  subst hnew
  have hmin : q.length = Nat.min sLen dLen := by show q.length = min sLen dLen; omega
  by_cases h0 : q.length = 0
  · have hrun := run_copy_none (P := P) w dT sT o.type elem (some ⟨g, off, none⟩) sp dLen dCap sLen sCap hu hsz (by rw [← hmin]; exact h0)
    unfold Oper.wp
    simp [execOp, ho, resolve, invoke, builtin, hd, hs, hrun, Result.andThen]
    obtain rfl : q = [] := List.eq_nil_of_length_eq_zero h0
    exact h w (by simpa [splice, encB] using hg) ⟨rfl, rfl, rfl, Nat.le_refl _, fun _ _ _ => rfl⟩
  · cases sp with
    | none => obtain ⟨_, rfl⟩ := hq.nil rfl; exact absurd rfl h0
    | some ad =>
      have hrun := run_copy_row (P := P) w dT sT o.type elem g off dLen dCap ad sLen sCap cur.toArray t (encB q) hu hsz hg.out (by rw [encB_length]; exact hmin) hq.cells (by rw [encB_length]; simpa using hfit) (encB_one q)
      unfold Oper.wp
      simp [execOp, ho, resolve, invoke, builtin, hd, hs, hrun, Result.andThen]
      have hh := h (w.setRow g (splice cur off (encB q)).toArray) ⟨setRow_heap w g _ _ t _ hg.out⟩ ⟨rfl, rfl, rfl, by simp, fun k _ hk => setRow_other _ _ _ _ (fun e => hk (by rw [e]))⟩
      have hh2 : K (a.put o.dst (goInt q.length)) (w.setRow g (cur.take off ++ (encB q ++ cur.drop (off + q.length))).toArray) := by simpa [splice, encB_length] using hh
      simp [encB_length]
      exact hh2
theorem wpList_copy_part (hgd : o.guard = none) (d s : Operand) (dT sT : TypeId)
    (ho : o.op = .call { callee := .builtin .copy, args := #[d, s], argTypes := #[dT, sT] }) (elem : TypeId) (hu : P.underlying dT = some (.slice elem)) (hsz : (P.info? elem).map (·.size) = some 1)
    (g off dLen dCap sLen sCap : Nat) (sp : Option Addr) (hd : a.eval d = .slice (some ⟨g, off, none⟩) dLen dCap) (hs : a.eval s = .slice sp sLen sCap)
    (cur : List Value) (t : TypeId) (hg : Row w g t cur) (q : List UInt8) (hn : q.length = sLen) (hm : sLen ≤ dLen) (hq : RB w sp sCap q)
    (hfit : off + q.length ≤ cur.length) (new : List Value) (hnew : splice cur off (encB q) = new)
    (h : ∀ w', Row w' g t new → w.grownBy w' (some g) → wpList P ops Q rest (a.put o.dst (goInt q.length)) w') : wpList P ops Q (o :: rest) a w := by
  have hw : Region.wanted o (yielded ops a.tmps) = true := by simp [Region.wanted, hgd]
  refine wpList_want hw fun K hK => ?_
  have := step_copy_part (P := P) (ops := ops) (K := K) (Q := Q) (E := True) hgd d s dT sT ho elem hu hsz g off dLen dCap sLen sCap sp hd hs cur t hg q hn hm hq hfit new hnew (fun w' h1 h2 => hK _ _ (h w' h1 h2))
  rwa [if_pos hw] at this
/-- a whole array (or struct) is written, as one step of a region that draws -/
theorem step_store_part {K : Act → World → Prop} {E : Prop} (hgd : o.guard = none) (ty : TypeId) (x y : Operand) (ho : o.op = .store ty x y)
    (g off : Nat) (cells : Array Value) (hx : a.eval x = .pointer (some ⟨g, off, none⟩)) (hy : a.eval y = .agg cells)
    (t : TypeId) (old : Array Value) (hg : w.heap[g]? = some (.cells old t (0, 0))) (hi : (P.info? ty).map (·.size) = some cells.size)
    (hold : off + cells.size ≤ old.size) (h1 : cells.all (·.oneCell') = true)
    (h : K (a.put o.dst undef) (w.setRow g (splice old.toList off cells.toList).toArray)) :
    if Region.wanted o (yielded ops a.tmps) = true then Oper.wp P o a w K Q else E := by
  have hw : Region.wanted o (yielded ops a.tmps) = true := by simp [Region.wanted, hgd]
  rw [if_pos hw]
  have hrun := run_storeCells_part (P := P) g t off cells.toList 0 old w hg (by simpa using hold) (fun v hv => (Array.all_eq_true_iff_forall_mem.1 h1) v (by simpa using hv))
  rw [Nat.add_zero] at hrun
  have hsv : (storeVar ty ⟨g, off, none⟩ (.agg cells)).run P w = .ok () (w.setRow g (splice old.toList off cells.toList).toArray) := by
    cases hq : P.info? ty with
    | none => simp [hq] at hi
    | some i =>
      have hs : cells.size = i.size := by simp [hq] at hi; omega
      simp [storeVar, sizeOf, typeInfo, hq, Value.cells, hs, hrun]
  unfold Oper.wp execOp
  simp only [ho, hx, hy, Instr.storeAt, Instr.sureAddr, Sem.run_bind, Sem.run_pure, Result.andThen_ok, hsv]
  exact h
/-- a guard for the arms of a walk: the next operation is op -/
theorem wp_op_is (op : Op) (_h : o.op = op) (k : wpList P ops Q (o :: rest) a w) : wpList P ops Q (o :: rest) a w := k
theorem wp_fieldAt (hgd : o.guard = none) (t : TypeId) (x : Operand) (i : Nat) (ho : o.op = .fieldAddr t x i)
    (g off : Nat) (hx : a.eval x = .pointer (some ⟨g, 0, none⟩)) (hrun : ∀ w : World, (Instr.fieldAt t (.pointer (some ⟨g, 0, none⟩)) i).run P w = .ok (.pointer (some ⟨g, off, none⟩)) w)
    (h : wpList P ops Q rest (a.put o.dst (.pointer (some ⟨g, off, none⟩))) w) : wpList P ops Q (o :: rest) a w := by
  refine wpList_plain hgd fun K hK => ?_
  unfold Oper.wp execOp
  simp only [ho, hx, hrun, Sem.run_bind, Sem.run_pure, Result.andThen_ok]
  exact hK _ _ h
/-- two arrays of bytes compared -/
theorem run_eqlB (w : World) (t e : TypeId) (n : Nat) (ht : P.underlying t = some (.array n e)) (he : P.underlying e = some (.int .u8)) (hsz : (P.info? e).map (·.size) = some 1) (p q : List UInt8) (hp : p.length = n) (hq : q.length = n) :
    (binOp .eql t (.agg (rB p)) (.agg (rB q))).run P w = .ok (.bool (decide (p = q))) w := by
  have hs : ∀ w, (sizeOf e).run P w = .ok 1 w := by
    intro w
    cases hq : P.info? e with
    | none => simp [hq] at hsz
    | some i =>
      have : i.size = 1 := by simpa [hq] using hsz
      simp [sizeOf, typeInfo, hq, this]
  rw [rB_cell, rB_cell, run_eql_bytes w t e n ht he hs p q hp hq]
  congr 2
  by_cases h : p = q <;> simp [h]
end
end Go.Proofs.YtpmnnnbkbcpgjaaGreatDoor

/- Facts that go along with calls that make new memory alone, in one bag. -/
namespace Go.Proofs.YtpmnnnbkbcpgjaaGreatDoor
open Go.RowKit

/-- a fact about the world, and that it outlives a step of the kind R -/
structure Mv (R : World → World → Prop) (P : World → Prop) (w : World) : Prop where
  h : P w
  m : ∀ a b, R a b → P a → P b
theorem Mv.step {R : World → World → Prop} {P : World → Prop} {w w' : World} (h : Mv R P w) (r : R w w') : Mv R P w' := ⟨h.m _ _ r h.h, h.m⟩
theorem Mv.and {R : World → World → Prop} {P Q : World → Prop} {w : World} (h : Mv R P w) (k : Mv R Q w) : Mv R (fun a => P a ∧ Q a) w := ⟨⟨h.h, k.h⟩, fun a b r p => ⟨h.m a b r p.1, k.m a b r p.2⟩⟩
theorem Mv.name {R : World → World → Prop} {P : World → Prop} {w : World} (h : Mv R P w) : ∃ Q : World → Prop, Q = P ∧ Mv R Q w := ⟨P, rfl, h⟩
/-- new memory alone -/
def Bl (a b : World) : Prop := Below a.heap.size a b
theorem Bl.refl (a : World) : Bl a a := Below.refl _ _
theorem Bl.alloc (a : World) (o : Obj) : Bl a (a.alloc o) := below_alloc1 (Below.refl _ _) (Nat.le_refl _) o
theorem Bl.drew (a : World) : Bl a a.drew := below_drew _ _
theorem Mv.al {P : World → Prop} {w : World} (h : Mv Bl P w) (o : Obj) : Mv Bl P (w.alloc o) := h.step (Bl.alloc w o)
theorem Mv.dr {P : World → Prop} {w : World} (h : Mv Bl P w) : Mv Bl P w.drew := h.step (Bl.drew w)
theorem bgB {w a : World} (h : Below w.heap.size w a) : Mv Bl (fun a => Below w.heap.size w a) a := ⟨h, fun _ _ r h => below_then h r⟩
theorem bgRB {w : World} {A : Option Addr} {c : Nat} {p : List UInt8} (h : RB w A c p) : Mv Bl (fun a => RB a A c p) w := ⟨h, fun _ _ r h => h.new r⟩
theorem bgOB {w : World} {base e : Nat} {v : Value} {p : List UInt8} (h : OB w base e v p) : Mv Bl (fun a => OB a base e v p) w := ⟨h, fun _ _ r h => h.new r⟩
theorem bgEnts {w : World} {A : Option Addr} {es : List EnX} (h : Ents w A es) : Mv Bl (fun a => Ents a A es) w := ⟨h, fun _ _ r h => h.new r⟩
theorem bgEL {w : World} {base n : Nat} {v : Value} {es : List EnX} (h : EL w base v n es) : Mv Bl (fun a => EL a base v n es) w := ⟨h, fun _ _ r h => h.new r⟩
theorem bgDuo {w : World} {b : Nat} {x y : Value} (h : Duo w b x y) : Mv Bl (fun w => Duo w b x y) w := ⟨h, fun _ _ r h => h.new r⟩
theorem bgTrio {w : World} {b : Nat} {x y z : Value} (h : Trio w b x y z) : Mv Bl (fun w => Trio w b x y z) w := ⟨h, fun _ _ r h => h.new r⟩
theorem bgPair {w : World} {b : Nat} {x y : Value} (h : Pair w b x y) : Mv Bl (fun w => Pair w b x y) w := ⟨h, fun _ _ r h => h.new r⟩
theorem bgRow {w : World} {b : Nat} {T : TypeId} {L : List Value} (h : Row w b T L) : Mv Bl (fun w => Row w b T L) w := ⟨h, fun _ _ r h => h.new r⟩
theorem bgBat {w : World} {A : Option Addr} {n : Nat} {l : List En} (h : ∃ es, ensOf es = l ∧ n = es.length ∧ Ents w A es) : Mv Bl (fun w => ∃ es, ensOf es = l ∧ n = es.length ∧ Ents w A es) w := ⟨h, fun _ _ r ⟨es, h1, h2, h3⟩ => ⟨es, h1, h2, h3.new r⟩⟩
theorem Row.c {w : World} {g : Nat} {T : TypeId} {L : List Value} (h : Row w g T L) (j : Nat) (v : Value) (e : L[j]? = some v) : w.cell? ⟨g, j, none⟩ = some v := (h.cell j).trans e
theorem bgRow0 (w : World) (T : TypeId) (L : List Value) (C : Array Value) (hC : C = L.toArray) : Mv Bl (fun a => Row a w.heap.size T L) (w.alloc (.cells C T)) := bgRow (Row.fresh w _ rfl T L C hC)
end Go.Proofs.YtpmnnnbkbcpgjaaGreatDoor

/- Plain words for layer 8: a head's bytes, what a frame's payload holds, a segment as it is read. -/
namespace Go.Proofs.YtpmnnnbkbcpgjaaGreatDoor
open WireMath (wideL numS beN rawS uvarL)
open FrameMath (laid)

/-- a head: its number, its epoch, the index of its first entry, its width -/
structure HdV where
  n : Nat
  ep : Nat
  f : Nat
  w : Nat
def magicL : List UInt8 := [78, 84, 82, 89, 49]
def headPay (h : HdV) : List UInt8 := magicL ++ (wideL h.n 8 ++ (wideL h.ep 8 ++ (wideL h.f 8 ++ [UInt8.ofNat h.w])))
def headL (h : HdV) : List UInt8 := laid h.n (headPay h)
theorem headPay_length (h : HdV) : (headPay h).length = 30 := by
  simp [headPay, magicL, WireMath.wideL_length]
theorem headL_length (h : HdV) : (headL h).length = 48 := by
  rw [headL, FrameMath.laid_length, headPay_length]
/-- what EncodeHead answers of a head of any width -/
def encH (n ep f : Nat) (w : Int) : List UInt8 × Nat := if 1 ≤ w ∧ w ≤ 32 then (headL ⟨n, ep, f, w.toNat⟩, 0) else ([], 1)
/-- the head that a payload tells, if it tells one -/
def headV (Q : List UInt8) : HdV := ⟨beN ((Q.drop 5).take 8), beN ((Q.drop 13).take 8), beN ((Q.drop 21).take 8), beN ((Q.drop 29).take 1)⟩
def headOk (Q : List UInt8) (place : Nat) : Prop := Q.take 5 = magicL ∧ Q.length = 30 ∧ 1 ≤ (headV Q).w ∧ (headV Q).w ≤ 32 ∧ (headV Q).n = place
instance (Q : List UInt8) (place : Nat) : Decidable (headOk Q place) := by unfold headOk; infer_instance
structure HdOk (h : HdV) : Prop where
  n : h.n ≤ 18446744073709551615
  ep : h.ep ≤ 18446744073709551615
  f : h.f ≤ 18446744073709551615
  w1 : 1 ≤ h.w
  w2 : h.w ≤ 32
theorem headV_ok (Q : List UInt8) (h1 : 1 ≤ (headV Q).w) (h2 : (headV Q).w ≤ 32) : HdOk (headV Q) :=
  ⟨beN8 _ (by simp; omega), beN8 _ (by simp; omega), beN8 _ (by simp; omega), h1, h2⟩
theorem take_all8 (l : List UInt8) : wideL (beN (l.take 8)) (l.take 8).length = l.take 8 := wideL_beN _
/-- a payload that tells a head is just that head's -/
theorem headPay_back (Q : List UInt8) (place : Nat) (h : headOk Q place) : Q = headPay (headV Q) := by
  obtain ⟨h1, h2, h3, h4, h5⟩ := h
  have e5 : Q = Q.take 5 ++ Q.drop 5 := (List.take_append_drop 5 Q).symm
  have e13 : Q.drop 5 = (Q.drop 5).take 8 ++ Q.drop 13 := by rw [show Q.drop 13 = (Q.drop 5).drop 8 by rw [List.drop_drop]]; exact (List.take_append_drop 8 _).symm
  have e21 : Q.drop 13 = (Q.drop 13).take 8 ++ Q.drop 21 := by rw [show Q.drop 21 = (Q.drop 13).drop 8 by rw [List.drop_drop]]; exact (List.take_append_drop 8 _).symm
  have e29 : Q.drop 21 = (Q.drop 21).take 8 ++ Q.drop 29 := by rw [show Q.drop 29 = (Q.drop 21).drop 8 by rw [List.drop_drop]]; exact (List.take_append_drop 8 _).symm
  have l5 : ((Q.drop 5).take 8).length = 8 := by simp; omega
  have l13 : ((Q.drop 13).take 8).length = 8 := by simp; omega
  have l21 : ((Q.drop 21).take 8).length = 8 := by simp; omega
  have w5 := wideL_beN ((Q.drop 5).take 8)
  have w13 := wideL_beN ((Q.drop 13).take 8)
  have w21 := wideL_beN ((Q.drop 21).take 8)
  rw [l5] at w5
  rw [l13] at w13
  rw [l21] at w21
  have l29 : (Q.drop 29).length = 1 := by simp; omega
  have w29 : [UInt8.ofNat (headV Q).w] = Q.drop 29 := by
    unfold headV
    match hq : Q.drop 29, l29 with
    | [c], _ => simp [WireMath.beN]
  unfold headPay
  rw [show (headV Q).n = beN ((Q.drop 5).take 8) from rfl, show (headV Q).ep = beN ((Q.drop 13).take 8) from rfl, show (headV Q).f = beN ((Q.drop 21).take 8) from rfl, w5, w13, w21, w29, ← h1, ← e29, ← e21, ← e13, ← e5]
theorem headV_pay (h : HdV) (hk : HdOk h) : headV (headPay h) = h := by
  have d5 : (headPay h).drop 5 = wideL h.n 8 ++ (wideL h.ep 8 ++ (wideL h.f 8 ++ [UInt8.ofNat h.w])) := rfl
  have d13 : (headPay h).drop 13 = wideL h.ep 8 ++ (wideL h.f 8 ++ [UInt8.ofNat h.w]) := by
    rw [show 13 = 5 + 8 from rfl, ← List.drop_drop, d5, List.drop_left' (WireMath.wideL_length _ _)]
  have d21 : (headPay h).drop 21 = wideL h.f 8 ++ [UInt8.ofNat h.w] := by
    rw [show 21 = 13 + 8 from rfl, ← List.drop_drop, d13, List.drop_left' (WireMath.wideL_length _ _)]
  have d29 : (headPay h).drop 29 = [UInt8.ofNat h.w] := by
    rw [show 29 = 21 + 8 from rfl, ← List.drop_drop, d21, List.drop_left' (WireMath.wideL_length _ _)]
  have e : (256 : Nat) ^ 8 = 18446744073709551616 := by decide
  have := hk.n
  have := hk.ep
  have := hk.f
  have := hk.w2
  unfold headV
  rw [d5, d13, d21, d29, List.take_left' (WireMath.wideL_length _ _), List.take_left' (WireMath.wideL_length _ _), List.take_left' (WireMath.wideL_length _ _), beN_wideL, beN_wideL, beN_wideL, e]
  have ew : beN (List.take 1 [UInt8.ofNat h.w]) = h.w := by
    simp [WireMath.beN]
    omega
  rw [ew, Nat.mod_eq_of_lt (by omega), Nat.mod_eq_of_lt (by omega), Nat.mod_eq_of_lt (by omega)]
theorem headOk_pay (h : HdV) (hk : HdOk h) : headOk (headPay h) h.n := by
  refine ⟨?_, headPay_length h, ?_, ?_, ?_⟩
  · rfl
  · rw [headV_pay h hk]; exact hk.w1
  · rw [headV_pay h hk]; exact hk.w2
  · rw [headV_pay h hk]

/-- the batches from a place and an index on, and where they end -/
structure Rd8 where
  bs : List (Nat × List En)
  used : Nat
def oneOk (P : List UInt8) (used ix : Nat) : Prop := (nextF P used).kind = 1 ∧ (nextF P used).place = ix ∧ (decB (nextF P used).payload).e = 0 ∧ (decB (nextF P used).payload).f = ix
instance (P : List UInt8) (used ix : Nat) : Decidable (oneOk P used ix) := by unfold oneOk; infer_instance
def readTo : Nat → List UInt8 → Nat → Nat → Rd8
  | 0, _, used, _ => ⟨[], used⟩
  | f + 1, P, used, ix =>
    if oneOk P used ix then
      ⟨(ix, (decB (nextF P used).payload).l) :: (readTo f P (used + (nextF P used).payload.length + 18) (ix + (decB (nextF P used).payload).l.length)).bs, (readTo f P (used + (nextF P used).payload.length + 18) (ix + (decB (nextF P used).payload).l.length)).used⟩
    else ⟨[], used⟩
structure Seg where
  h : HdV
  bs : List (Nat × List En)
  used : Nat
  e : Nat
def noSeg : Seg := ⟨⟨0, 0, 0, 0⟩, [], 0, 3⟩
def readF (P : List UInt8) : Seg :=
  if (nextF P 0).kind = 1 ∧ headOk (nextF P 0).payload (nextF P 0).place then
    ⟨headV (nextF P 0).payload, (readTo (P.length + 1) P ((nextF P 0).payload.length + 18) (headV (nextF P 0).payload).f).bs, (readTo (P.length + 1) P ((nextF P 0).payload.length + 18) (headV (nextF P 0).payload).f).used, 0⟩
  else noSeg
/-- a batch that is decoded has indices -/
theorem decB_fits (P : List UInt8) (h : (decB P).e = 0) : (decB P).l.length ≠ 0 ∧ (decB P).f + (decB P).l.length < 18446744073709551616 ∧ encBF (decB P).f (decB P).l = (P, 0) := by
  have e : decB P = ⟨0, (decB P).f, (decB P).l⟩ := by rw [← h]
  have h2 := decB_back P _ _ e
  obtain ⟨_, h3, h4, _⟩ := encBF_ok _ _ _ h2
  exact ⟨h3, h4, h2⟩
theorem uvarL_pos (v : Nat) : 1 ≤ (uvarL v).length := by have := WireMath.uvarF_pos 9 v; unfold WireMath.uvarL; omega
theorem encL_least (e : En) : 2 ≤ (encL e).length := by
  have h1 := uvarL_pos e.K.length
  unfold encL
  simp only [List.length_append, List.length_cons, List.length_nil]
  omega
theorem encBL_least (f : Nat) (l : List En) (h : l.length ≠ 0) : 4 ≤ (encBL f l).length := by
  have h1 := uvarL_pos f
  have h2 := uvarL_pos l.length
  unfold encBL
  match l, h with
  | x :: xs, _ =>
    have := encL_least x
    simp only [List.length_append, List.flatMap_cons]
    omega
/-- what a whole batch's frame says -/
structure OneOk (P : List UInt8) (used ix : Nat) (pay : List UInt8) (l : List En) : Prop where
  next : nextF P used = ⟨1, ix, pay, ((used + pay.length + 18 : Nat) : Int)⟩
  dec : decB pay = ⟨0, ix, l⟩
  le : used + pay.length + 18 ≤ P.length
  least : 4 ≤ pay.length
  fits : ix + l.length < 18446744073709551616
  some : l.length ≠ 0
  laid : laid ix pay = (P.drop used).take (pay.length + 18)
  enc : encBF ix l = (pay, 0)
theorem oneOk_back (P : List UInt8) (used ix : Nat) (h : oneOk P used ix) : OneOk P used ix (nextF P used).payload (decB (nextF P used).payload).l := by
  obtain ⟨h1, h2, h3, h4⟩ := h
  obtain ⟨a, ea, hp1, hp2, hpl, hnx, hle, hl⟩ := next_whole P used h1
  obtain rfl : a = used := by omega
  have hf := decB_fits _ h3
  refine ⟨?_, ?_, hle, ?_, by rw [← h4]; exact hf.2.1, hf.1, by rw [← h2]; exact hl, by rw [← h4]; exact hf.2.2⟩
  · generalize nextF P (a : Int) = r at *
    obtain ⟨k, pl, pay, nx⟩ := r
    simp only at h1 h2 hnx
    subst h1; subst h2
    simp only [Nx.mk.injEq, true_and]
    rw [hnx]; omega
  · generalize decB (nextF P (a : Int)).payload = t at *
    obtain ⟨e, f, l⟩ := t
    simp only at h3 h4
    subst h3; subst h4
    rfl
  · have h5 := (encBF_ok _ _ _ hf.2.2).1
    rw [h5]
    exact encBL_least _ _ hf.1
theorem readTo_step (f : Nat) (P : List UInt8) (used ix : Nat) (pay : List UInt8) (l : List En) (h : OneOk P used ix pay l) :
    readTo (f + 1) P used ix = ⟨(ix, l) :: (readTo f P (used + pay.length + 18) (ix + l.length)).bs, (readTo f P (used + pay.length + 18) (ix + l.length)).used⟩ := by
  have ho : oneOk P used ix := by unfold oneOk; rw [h.next, h.dec]; exact ⟨rfl, rfl, rfl, rfl⟩
  rw [readTo, if_pos ho, h.next, h.dec]
theorem readTo_end (f : Nat) (P : List UInt8) (used ix : Nat) (h : ¬ oneOk P used ix) : readTo f P used ix = ⟨[], used⟩ := by
  cases f with
  | zero => rfl
  | succ f => rw [readTo, if_neg h]
theorem readTo_len (P : List UInt8) : ∀ (f used ix : Nat), used ≤ P.length → used ≤ (readTo f P used ix).used ∧ (readTo f P used ix).bs.length * 22 + used ≤ (readTo f P used ix).used ∧ (readTo f P used ix).used ≤ P.length
  | 0, used, ix, h => by simp [readTo, h]
  | f + 1, used, ix, h => by
    by_cases ho : oneOk P used ix
    · have hk := oneOk_back P used ix ho
      rw [readTo_step f P used ix _ _ hk]
      have := readTo_len P f (used + (nextF P used).payload.length + 18) (ix + (decB (nextF P used).payload).l.length) hk.le
      have := hk.least
      simp only [List.length_cons]
      omega
    · rw [readTo_end _ _ _ _ ho]; simp [h]
end Go.Proofs.YtpmnnnbkbcpgjaaGreatDoor

/- Lists of batches of a call's own: each batch in blocks of its own. -/
namespace Go.Proofs.YtpmnnnbkbcpgjaaGreatDoor
open Go.RowKit

/-- a batch as it stands: its first index, its entries (cc: the room of the row that holds them), and the blocks (from lo on, below hi) that hold it; s: whether it is known that its lists lie apart -/
structure BtV where
  f : Nat
  A : Option Addr
  c : Nat
  cc : Nat
  es : List EnX
  lo : Nat
  hi : Nat
  s : Bool
def BtV.val (b : BtV) : Value := .slice b.A b.es.length b.c
def BtV.row (b : BtV) : Value := .slice b.A b.es.length b.cc
def BtV.cells (b : BtV) : List Value := [.int .u64 b.f, b.val]
def BtV.fst (b : BtV) : Nat × List En := (b.f, ensOf b.es)
structure BtAt (w : World) (b : BtV) : Prop where
  el : EL w b.lo b.row b.es.length b.es
  hi : b.hi ≤ w.heap.size
  own : ∀ k, b.row.ownBlock = some k → k < b.hi
  lists : ∀ x ∈ b.es, (∀ a, x.2.KA = some a → 0 < x.1.K.length → a.block < b.hi) ∧ (∀ a, x.2.VA = some a → 0 < x.1.V.length → a.block < b.hi)
  sep : b.s = true → SepE w b.lo b.es ∧ ∀ u ∈ listV b.es, ∀ k, u.ownBlock = some k → k < b.hi
theorem BtAt.keep {w w' : World} {b : BtV} (h : BtAt w b) (hk : ∀ k, b.lo ≤ k → k < b.hi → w'.heap[k]? = w.heap[k]?) (hs : w.heap.size ≤ w'.heap.size) : BtAt w' b := by
  have hrow : w'.ownsRow b.lo 72 3 b.row b.es.length (b.es.flatMap cellsE) := by
    have h0 := h.el.row
    refine ⟨h0.1, ?_⟩
    rcases h0.2 with h1 | ⟨g, cap, cur, e, hb, hh, r⟩
    · exact .inl h1
    · exact .inr ⟨g, cap, cur, e, hb, (hk g hb (h.own g (by rw [e]; rfl))).trans hh, r⟩
  refine ⟨⟨hrow, h.el.len, fun x hx => ⟨(h.el.ok x hx).k, ?_, ?_⟩, h.el.far⟩, Nat.le_trans h.hi hs, h.own, h.lists, fun hS => ?_⟩
  · exact (h.el.ok x hx).K.keep fun a e hp => hk _ ((h.el.far x hx).K a e hp).1 ((h.lists x hx).1 a e hp)
  · exact (h.el.ok x hx).V.keep fun a e hp => hk _ ((h.el.far x hx).V a e hp).1 ((h.lists x hx).2 a e hp)
  · obtain ⟨h1, h2⟩ := h.sep hS
    exact ⟨h1.keep fun u hu k e => hk k (h1.lt u hu k e).1 (h2 u hu k e), h2⟩
theorem BtAt.new {w w' : World} {b : BtV} (h : BtAt w b) (hb : Below w.heap.size w w') : BtAt w' b := h.keep (fun k _ h2 => hb.block k (Nat.lt_of_lt_of_le h2 h.hi)) hb.size
theorem BtAt.mk' (f : Nat) (A : Option Addr) (c cc : Nat) (es : List EnX) (lo : Nat) (w : World) (hE : EL w lo (.slice A es.length cc) es.length es) (hS : SepE w lo es) : BtAt w ⟨f, A, c, cc, es, lo, w.heap.size, true⟩ :=
  ⟨hE, Nat.le_refl _, fun k hk => (hE.lt k hk).2, fun x hx => ⟨fun a e hp => (hE.ok x hx).K.old.out a e hp, fun a e hp => (hE.ok x hx).V.old.out a e hp⟩, fun _ => ⟨hS, fun u hu k hk => (hS.lt u hu k hk).2⟩⟩
theorem BtAt.mkD (f : Nat) (A : Option Addr) (c cc : Nat) (es : List EnX) (lo : Nat) (w : World) (hE : EL w lo (.slice A es.length cc) es.length es) : BtAt w ⟨f, A, c, cc, es, lo, w.heap.size, false⟩ :=
  ⟨hE, Nat.le_refl _, fun k hk => (hE.lt k hk).2, fun x hx => ⟨fun a e hp => (hE.ok x hx).K.old.out a e hp, fun a e hp => (hE.ok x hx).V.old.out a e hp⟩, fun h => absurd h (by simp)⟩
theorem BtAt.ents {w : World} {b : BtV} (h : BtAt w b) : Ents w b.A b.es := h.el.reads
/-- a list of batches, each in blocks of its own, none of them the list's -/
structure BL (w : World) (base : Nat) (v : Value) (bs : List BtV) : Prop where
  row : w.ownsRow base 35 2 v bs.length (bs.flatMap BtV.cells)
  at_ : ∀ b ∈ bs, BtAt w b
  lo : ∀ b ∈ bs, base ≤ b.lo
  order : bs.Pairwise fun b d => b.hi ≤ d.lo
  far : ∀ b ∈ bs, ∀ k, v.ownBlock = some k → k < b.lo ∨ b.hi ≤ k
theorem BL.nil (w : World) (base : Nat) : BL w base (.slice none 0 0) [] := ⟨World.ownsRow_nil w base _ 2, fun b hb => absurd hb (by simp), fun b hb => absurd hb (by simp), List.Pairwise.nil, fun b hb => absurd hb (by simp)⟩
theorem BL.form {w : World} {base : Nat} {v : Value} {bs : List BtV} (h : BL w base v bs) : ∃ A c, v = .slice A bs.length c := own_formE h.row
theorem BL.lt {w : World} {base : Nat} {v : Value} {bs : List BtV} (h : BL w base v bs) : ∀ k, v.ownBlock = some k → base ≤ k ∧ k < w.heap.size := h.row.lt
theorem BL.keep {w w' : World} {base : Nat} {v : Value} {bs : List BtV} (h : BL w base v bs) (hk : ∀ k, base ≤ k → k < w.heap.size → w'.heap[k]? = w.heap[k]?) (hs : w.heap.size ≤ w'.heap.size) : BL w' base v bs :=
  ⟨own_keep h.row hk, fun b hb => (h.at_ b hb).keep (fun k h1 h2 => hk k (Nat.le_trans (h.lo b hb) h1) (Nat.lt_of_lt_of_le h2 (h.at_ b hb).hi)) hs, h.lo, h.order, h.far⟩
theorem BL.new {w w' : World} {base : Nat} {v : Value} {bs : List BtV} (h : BL w base v bs) (hb : Below w.heap.size w w') : BL w' base v bs := h.keep (fun k _ hk => hb.block k hk) hb.size
theorem BL.setLow {w : World} {base g j : Nat} {v u : Value} {bs : List BtV} (h : BL w base v bs) (hg : g < base) : BL (w.setCell ⟨g, j, none⟩ u) base v bs :=
  h.keep (fun k h1 h2 => (setCell_grown w g j u).block k h2 (fun e => by have := Option.some.inj e; omega)) (setCell_grown w g j u).size
theorem BL.mono {w : World} {base base' : Nat} {v : Value} {bs : List BtV} (h : BL w base v bs) (hb : base' ≤ base) : BL w base' v bs := ⟨Joins.ownsRow_le h.row hb, h.at_, fun b hm => Nat.le_trans hb (h.lo b hm), h.order, h.far⟩
theorem bcells_length (bs : List BtV) : (bs.flatMap BtV.cells).length = bs.length * 2 := by
  induction bs with
  | nil => rfl
  | cons f fs ih => simp [List.flatMap_cons, BtV.cells, ih]; omega
theorem bcells_get (bs : List BtV) (i : Nat) (b : BtV) (h : bs[i]? = some b) : (bs.flatMap BtV.cells)[i * 2]? = some (.int .u64 b.f) ∧ (bs.flatMap BtV.cells)[i * 2 + 1]? = some b.val := by
  induction bs generalizing i with
  | nil => simp at h
  | cons g fs ih =>
    rw [List.flatMap_cons]
    cases i with
    | zero => simp at h; subst h; simp [BtV.cells]
    | succ i =>
      have := ih i (by simpa using h)
      rw [show (i + 1) * 2 = i * 2 + 2 by omega, show i * 2 + 2 + 1 = (i * 2 + 1) + 2 by omega]
      rw [List.getElem?_append_right (by simp [BtV.cells]), List.getElem?_append_right (by simp [BtV.cells])]
      simpa [BtV.cells] using this
/-- where a batch of a list stands -/
theorem BL.get {w : World} {base : Nat} {v : Value} {bs : List BtV} (h : BL w base v bs) (i : Nat) (b : BtV) (hf : bs[i]? = some b) : ∃ g c, v = .slice (some ⟨g, 0, none⟩) bs.length c ∧ base ≤ g ∧ w.cell? ⟨g, i * 2, none⟩ = some (.int .u64 b.f) ∧ w.cell? ⟨g, i * 2 + 1, none⟩ = some b.val ∧ BtAt w b := by
  obtain ⟨c0, c1⟩ := bcells_get bs i b hf
  have h0 := h.row
  rcases h0.2 with ⟨_, hn⟩ | ⟨g, cap, cur, rfl, hb, _⟩
  · have := (List.getElem?_eq_some_iff.1 hf).1
    omega
  · have r0 := h0.cells (g := g) rfl _ _ c0
    have r1 := h0.cells (g := g) rfl _ _ c1
    rw [addr_at, Nat.zero_add] at r0 r1
    exact ⟨g, cap, rfl, hb, r0, r1, h.at_ b (List.mem_of_getElem? hf)⟩
structure BtT (P : Program) (t e : TypeId) : Prop where
  sl : P.underlying t = some (.slice e)
  info : (P.info? e).map (fun i => (i.zero, i.size, i.bytes)) = some (some (.agg #[.int .u64 0, .slice none 0 0]), 2, 32)
theorem btt : BtT Tryz.prog 49 35 := ⟨Tryz.underlying49, by kernel_rfl⟩
/-- append's own row: the old block or a new one -/
theorem append_block {P : Program} {w : World} (base : Nat) (t ty e : TypeId) (i : TypeInfo) (z : Value) (size bytes : Nat) (ht : P.underlying t = some (.slice e)) (hi : P.info? e = some i) (hz : i.zero = some z)
    (hsize : i.size = size) (hby : i.bytes = bytes) (v : Value) (n : Nat) (xs : List Value) (hown : w.ownsRow base e size v n xs)
    (a : Addr) (m c : Nat) (news : List Value) (hl : news.length = m * size) (hnews : ∀ j u, news[j]? = some u → w.cell? (a.add j) = some u) (h1 : ∀ u ∈ news, u.oneCell' = true)
    (h63 : n + m ≤ maxLen) (hbytes : ((n + m) + (n + m) / 4 + 192) * bytes ≤ 281474976710656) (hm : 0 < m) (v' : Value) (w' : World) (hr : (Builtin.append_ #[t, t] ty #[v, .slice (some a) m c]).run P w = .ok v' w') :
    v'.ownBlock = v.ownBlock ∨ v'.ownBlock = some w.heap.size := by
  subst hsize; subst hby
  have h63' : ((n + m : Nat) : Int) ≤ 9223372036854775807 := by simp only [maxLen] at h63; omega
  rcases hown.2 with ⟨rfl, rfl⟩ | ⟨g, cap, cur, rfl, hbg, hg, hnc, hcm, hcs, htake⟩
  · have hr2 := run_append_nil (P := P) w t ty e i z ht hi hz a m c news hl hnews hm (by omega) (by simp only [Nat.zero_add] at hbytes; exact Nat.le_trans (Nat.mul_le_mul_right _ (by omega)) hbytes)
    rw [hr] at hr2
    injection hr2 with e1 _
    exact .inr (by rw [e1]; rfl)
  · by_cases hroom : n + m ≤ cap
    · have hfit : n * i.size + news.length ≤ cur.size := by rw [hl, hcs, ← Nat.add_mul]; exact Nat.mul_le_mul_right _ hroom
      have hr2 := run_append_room (P := P) w t ty e i ht hi g n cap cur hg a m c news hl hnews h1 hroom hfit
      rw [hr] at hr2
      injection hr2 with e1 _
      exact .inl (by rw [e1]; rfl)
    · have hr2 := run_append_grow (P := P) w t ty e i z ht hi hz ⟨g, 0, none⟩ n cap xs hown.1 (hown.cells (g := g) rfl) a m c news hl hnews (by omega) h63' (growslice_fits_wide (by omega) hbytes)
      rw [hr] at hr2
      injection hr2 with e1 _
      exact .inr (by rw [e1]; rfl)
theorem run_appendBt {P : Program} {t : TypeId} {w : World} (et : BtT P t 35) (ty : TypeId) (base : Nat) (v : Value) (bs : List BtV) (ho : BL w base v bs) (b : BtV) (ad : Addr) (h0 : w.cell? (ad.add 0) = some (.int .u64 b.f)) (h1 : w.cell? (ad.add 1) = some b.val) (hb : BtAt w b) (hlo : base ≤ b.lo) (hord : ∀ d ∈ bs, d.hi ≤ b.lo) (hv : ∀ k, v.ownBlock = some k → k < b.lo) (hlen : ((bs.length + 1) + (bs.length + 1) / 4 + 192) * 32 ≤ 281474976710656) (hbase : base ≤ w.heap.size) :
    ∃ v' w', (Builtin.append_ #[t, t] ty #[v, .slice (some ad) 1 1]).run P w = .ok v' w' ∧ BL w' base v' (bs ++ [b]) ∧ w.grownBy w' v.ownBlock := by
  obtain ⟨i, hi, hz, hsz, hby⟩ := info_parts et.info
  have hn : ∀ j u, b.cells[j]? = some u → w.cell? (ad.add j) = some u := fun j u hu => by
    match j, hu with
    | 0, hu => obtain rfl := Option.some.inj hu; exact h0
    | 1, hu => obtain rfl := Option.some.inj hu; exact h1
    | j + 2, hu => simp [BtV.cells] at hu
  have h1c : ∀ u ∈ b.cells, u.oneCell' = true := fun u hu => by
    simp [BtV.cells] at hu
    rcases hu with rfl | rfl <;> rfl
  have h63 : bs.length + 1 ≤ maxLen := by unfold maxLen; omega
  obtain ⟨v', w', hr, g1, g2, _⟩ := Go.run_append_own_wide (P := P) (w := w) base t ty 35 i _ 2 32 et.sl hi hz hsz hby rfl (by decide) v bs.length (bs.flatMap BtV.cells) ho.row ad 1 1 b.cells rfl hn h1c h63 hlen hbase
  have g4 := append_block (P := P) (w := w) base t ty 35 i _ 2 32 et.sl hi hz hsz hby v bs.length (bs.flatMap BtV.cells) ho.row ad 1 1 b.cells rfl hn h1c h63 hlen (by decide) v' w' hr
  have hkeep : ∀ d, BtAt w d → (∀ k, v.ownBlock = some k → k < d.lo ∨ d.hi ≤ k) → BtAt w' d := fun d hd hf => hd.keep (fun k h1 h2 => g2.block k (Nat.lt_of_lt_of_le h2 hd.hi) (fun e => by have := hf k e.symm; omega)) g2.size
  have hfar : ∀ d, BtAt w d → (∀ k, v.ownBlock = some k → k < d.lo ∨ d.hi ≤ k) → ∀ k, v'.ownBlock = some k → k < d.lo ∨ d.hi ≤ k := fun d hd hf k hk => by
    rcases g4 with e | e
    · exact hf k (by rw [← e]; exact hk)
    · rw [e] at hk; have := Option.some.inj hk; have := hd.hi; omega
  refine ⟨v', w', hr, ⟨by simpa using g1, fun d hd => ?_, fun d hd => ?_, ?_, fun d hd => ?_⟩, g2⟩
  · rcases List.mem_append.1 hd with hd | hd
    · exact hkeep d (ho.at_ d hd) (ho.far d hd)
    · obtain rfl := List.mem_singleton.1 hd
      exact hkeep d hb fun k hk => .inl (hv k hk)
  · rcases List.mem_append.1 hd with hd | hd
    · exact ho.lo d hd
    · obtain rfl := List.mem_singleton.1 hd
      exact hlo
  · rw [List.pairwise_append]
    refine ⟨ho.order, List.pairwise_singleton _ _, fun x hx y hy => ?_⟩
    obtain rfl := List.mem_singleton.1 hy
    exact hord x hx
  · rcases List.mem_append.1 hd with hd | hd
    · exact hfar d (ho.at_ d hd) (ho.far d hd)
    · obtain rfl := List.mem_singleton.1 hd
      exact hfar d hb fun k hk => .inl (hv k hk)
theorem wp_appendBt {P : Program} {t : TypeId} {w : World} {ops : Array Oper} {rest : List Oper} {o : Oper} {a : Act} {Q : Exit → Act → World → Prop} (et : BtT P t 35) (hg : o.guard = none) (s x : Operand) (hop : o.op = .call { callee := .builtin .append, args := #[s, x], argTypes := #[t, t] })
    (base : Nat) (v : Value) (bs : List BtV) (hs : a.eval s = v) (ho : BL w base v bs) (b : BtV) (ad : Addr) (hx : a.eval x = .slice (some ad) 1 1) (h0 : w.cell? (ad.add 0) = some (.int .u64 b.f)) (h1 : w.cell? (ad.add 1) = some b.val) (hb : BtAt w b) (hlo : base ≤ b.lo) (hord : ∀ d ∈ bs, d.hi ≤ b.lo) (hv : ∀ k, v.ownBlock = some k → k < b.lo) (hlen : ((bs.length + 1) + (bs.length + 1) / 4 + 192) * 32 ≤ 281474976710656) (hbase : base ≤ w.heap.size)
    (h : ∀ v' w', BL w' base v' (bs ++ [b]) → w.grownBy w' v.ownBlock → wpList P ops Q rest (a.put o.dst v') w') : wpList P ops Q (o :: rest) a w := by
  refine wpList_plain hg fun K hK => ?_
  obtain ⟨v', w', hr, g1, g2⟩ := run_appendBt et o.type base v bs ho b ad h0 h1 hb hlo hord hv hlen hbase
  unfold Oper.wp execOp
  simp only [hop, resolve, invoke, builtin, Sem.run_bind, Sem.run_pure, Result.andThen_ok, List.map_toArray, List.map_cons, List.map_nil, hs, hx, hr]
  exact hK _ _ (h v' w' g1 g2)
end Go.Proofs.YtpmnnnbkbcpgjaaGreatDoor

/- The walks of segment.wide and segment.EncodeHead. -/
namespace Go.Proofs.YtpmnnnbkbcpgjaaGreatDoor
open Go.RowKit
open WireMath (wideL)
open FrameMath (laid)

/-- a writer above B, where nothing below B has turned since W -/
structure WrB (W : World) (B b : Nat) (p : List UInt8) (w : World) : Prop where
  out : ∃ F, WrF w F b p ∧ ∀ k, F k → B ≤ k
  below : Below B W w
  size : B ≤ w.heap.size
theorem WrB.fresh (w : World) (B : Nat) (hB : B ≤ w.heap.size) (t : TypeId) : WrB w B w.heap.size [] (w.alloc (.cells #[.slice none 0 0] t)) :=
  ⟨⟨_, WrF.fresh w _ rfl t, fun k hk => by subst hk; exact hB⟩, below_alloc1 (Below.refl _ _) hB _, Nat.le_trans hB (by rw [asz]; omega)⟩
theorem WrB.new {W w w' : World} {B b : Nat} {p : List UInt8} (h : WrB W B b p w) (hb : Below w.heap.size w w') : WrB W B b p w' := by
  obtain ⟨F, h1, h2⟩ := h.out
  exact ⟨⟨F, h1.new hb, h2⟩, h.below.trans (hb.mono h.size), Nat.le_trans h.size hb.size⟩
theorem WrB.call {P : Program} {f : Nat} {args : Array Value} {W w : World} {B b : Nat} {p q : List UInt8} {E : Ending} (h : WrB W B b p w)
    (hc : ∀ F, WrF w F b p → Calls P f args w fun e w' => ∃ F', e = E ∧ WrF w' F' b q ∧ Step w w' F F') : Calls P f args w fun e w' => e = E ∧ WrB W B b q w' := by
  obtain ⟨F, h1, h2⟩ := h.out
  refine (hc F h1).mono ?_
  rintro e w' ⟨F', rfl, h3, h4⟩
  exact ⟨rfl, ⟨⟨F', h3, h4.lo h2 h.size⟩, h.below.trans (h4.below h.size h2), Nat.le_trans h.size h4.size⟩⟩
theorem WrB.u8 {W w : World} {B b : Nat} {p : List UInt8} (h : WrB W B b p w) (q : List UInt8) (v : Nat) (V : Int) (hV : V = v) (hq : p ++ [UInt8.ofNat v] = q) (hv : v ≤ 255) (hl : p.length + 8 ≤ 140737488355328) :
    Calls Tryz.prog 47 #[.pointer (some ⟨b, 0, none⟩), .int .u8 V] w fun e w' => e = .returned (.tuple #[]) ∧ WrB W B b q w' := h.call fun _ h => u8F h q v V hV hq hv hl
theorem WrB.u64 {W w : World} {B b : Nat} {p : List UInt8} (h : WrB W B b p w) (q : List UInt8) (v : Nat) (V : Int) (hV : V = v) (hq : p ++ wideL v 8 = q) (hv : v ≤ 18446744073709551615) (hl : p.length + 8 ≤ 140737488355328) :
    Calls Tryz.prog 46 #[.pointer (some ⟨b, 0, none⟩), .int .u64 V] w fun e w' => e = .returned (.tuple #[]) ∧ WrB W B b q w' := h.call fun _ h => u64F h q v V hV hq hv hl
theorem WrB.raw {W w : World} {B b : Nat} {p : List UInt8} (h : WrB W B b p w) (A : Option Addr) (q r : List UInt8) (n c : Nat) (hr : p ++ q = r) (hq : RB w A c q) (hn : n = q.length) (hl : p.length + q.length ≤ 140737488355328) :
    Calls Tryz.prog 45 #[.pointer (some ⟨b, 0, none⟩), .slice A n c] w fun e w' => e = .returned (.tuple #[]) ∧ WrB W B b r w' := h.call fun _ h => rawF h A q r n c hr hq hn hl
theorem WrB.bytes {W w : World} {B b : Nat} {p : List UInt8} (h : WrB W B b p w) (n : Nat) (hn : n = p.length) (hl : p.length ≤ 140737488355328) :
    Calls Tryz.prog 49 #[.pointer (some ⟨b, 0, none⟩)] w fun e w' => ∃ A' c', e = .returned (.slice A' n c') ∧ NewB w w' (.slice A' n c') p := by
  obtain ⟨F, h1, _⟩ := h.out
  exact bytesF h1 n hn hl

theorem segWide_calls (x : Int) (r : Bool) (hr : decide (1 ≤ x ∧ x ≤ 32) = r) (w : World) :
    Calls Tryz.prog 44 #[.int .i64 x] w fun e w' => e = .returned (.bool r) ∧ w = w' := by
  have HR := Lib.hid hr
  clear hr
  by_cases h1 : 1 ≤ x
  · by_cases h2 : x ≤ 32
    · go_enter Tryz.func44, Tryz.ntmps44
      go_wp2
      go_ret
      exact ⟨ret_bool (by rw [← HR.out]; symm; rw [decide_eq_true_iff]; exact ⟨h1, h2⟩), rfl⟩
    · go_enter Tryz.func44, Tryz.ntmps44
      go_wp2
      go_ret
      exact ⟨ret_bool (by rw [← HR.out]; symm; rw [decide_eq_false_iff_not]; omega), rfl⟩
  · go_enter Tryz.func44, Tryz.ntmps44
    go_wp2
    go_ret
    exact ⟨ret_bool (by rw [← HR.out]; symm; rw [decide_eq_false_iff_not]; omega), rfl⟩
set_option maxRecDepth 100000 in
theorem encHead_no (n ep f : Nat) (x : Int) (hx : ¬(1 ≤ x ∧ x ≤ 32)) (w : World) :
    Calls Tryz.prog 17 #[.agg #[.int .u64 n, .int .u64 ep, .int .u64 f, .int .i64 x]] w fun e w' => e = .returned (.tuple #[.slice none 0 0, .int .i64 1]) ∧ Below w.heap.size w w' := by
  have HR := Lib.hid (show decide (1 ≤ x ∧ x ≤ 32) = false by rw [decide_eq_false_iff_not]; exact hx)
  clear hx
  have R0 := Row.fresh w w.heap.size rfl 32 [.int .u64 n, .int .u64 ep, .int .u64 f, .int .i64 x] #[.int .u64 n, .int .u64 ep, .int .u64 f, .int .i64 x] rfl
  have c3 := R0.c 3 _ rfl
  have HB := Lib.hid (below_alloc1 (Below.refl w.heap.size w) (Nat.le_refl _) (.cells #[.int .u64 n, .int .u64 ep, .int .u64 f, .int .i64 x] 32))
  clear R0
  go_enter Tryz.func17, Tryz.ntmps17
  go_wp2_with (go_at_call 44; (with_reducible refine (segWide_calls x false HR.out _).mono ?_); rintro e1 w1 ⟨rfl, rfl⟩)
  go_ret2
  exact ⟨rfl, HB.out⟩
theorem below_lowN {B B' : Nat} {w w' : World} (h : Below B w w') (hB : B' ≤ B) : Below B' w w' := ⟨h.os, h.tape, h.output, h.size, fun k hk => h.block k (by omega)⟩
theorem segEnc_calls (place : Nat) (hpl : place ≤ 18446744073709551615) (A : Option Addr) (p : List UInt8) (n c : Nat) (w : World) (hp : RB w A c p) (hn : n = p.length) (q : List UInt8) (hq : encF place p = (q, 0)) (m : Nat) (hm : m = q.length) :
    Calls Tryz.prog 48 #[.agg #[.int .u64 place, .slice A n c]] w fun e w' => ∃ A' c', e = .returned (.tuple #[.slice A' m c', .int .i64 0]) ∧ NewB w w' (.slice A' m c') q := by
  have hl : p.length ≤ 65535 := by
    unfold encF at hq
    split at hq
    · exact absurd (congrArg Prod.snd hq) (by simp)
    · omega
  have := encode_calls place hpl A p n c w hp hn (by omega)
  rw [hq] at this
  subst hm
  exact this
theorem RB.litF (w : World) (e : TypeId) (f : Nat × Nat) (C : Array Value) (p : List UInt8) (h : C = (encB p).toArray) (n : Nat) (hn : n = p.length) (hs : p.length ≤ 1000) (k : Nat) (hk : w.heap.size = k) : RB (w.alloc (.cells C e f)) (some ⟨k, 0, none⟩) n p := by
  subst hk; exact RB.lit w e f C p h n hn hs
set_option maxRecDepth 100000 in
theorem encHead_yes (h : HdV) (hk : HdOk h) (x : Int) (hx : x = h.w) (w : World) :
    Calls Tryz.prog 17 #[.agg #[.int .u64 h.n, .int .u64 h.ep, .int .u64 h.f, .int .i64 x]] w fun e w' => ∃ A c, e = .returned (.tuple #[.slice A 48 c, .int .i64 0]) ∧ NewB w w' (.slice A 48 c) (headL h) := by
  subst hx
  have hk1 := hk.n
  have hk2 := hk.ep
  have hk3 := hk.f
  have hk4 := hk.w1
  have hk5 := hk.w2
  obtain ⟨n, ep, f, x⟩ := h
  simp only at hk1 hk2 hk3 hk4 hk5 ⊢
  have HR := Lib.hid (show decide (1 ≤ (x : Int) ∧ (x : Int) ≤ 32) = true by rw [decide_eq_true_iff]; omega)
  obtain ⟨L, hL⟩ : ∃ L : List Value, L = [.int .u64 n, .int .u64 ep, .int .u64 f, .int .i64 x] := ⟨_, rfl⟩
  have R0 := Row.fresh w w.heap.size rfl 32 L #[.int .u64 n, .int .u64 ep, .int .u64 f, .int .i64 x] (by rw [hL])
  have HB := Lib.hid (below_alloc1 (Below.refl w.heap.size w) (Nat.le_refl _) (.cells #[.int .u64 n, .int .u64 ep, .int .u64 f, .int .i64 x] 32))
  have c3 := R0.c 3 (.int .i64 x) (by rw [hL]; rfl)
  have HL := Lib.hid hL
  have HW := WrB.fresh (w.alloc (.cells #[.int .u64 n, .int .u64 ep, .int .u64 f, .int .i64 x] 32)) (w.heap.size + 1) (Nat.le_of_eq (asz _ _).symm) 93
  rw [asz] at HW
  have HW := Lib.hid HW
  have H0 := Lib.hid R0
  obtain ⟨W, hW⟩ : ∃ W : World, W = w.alloc (.cells #[.int .u64 n, .int .u64 ep, .int .u64 f, .int .i64 x] 32) := ⟨_, rfl⟩
  have HRB := Lib.hid (RB.litF ((w.alloc (.cells #[.int .u64 n, .int .u64 ep, .int .u64 f, .int .i64 x] 32)).alloc (.cells #[.slice none 0 0] 93)) 5 (5, 6) #[.int .u8 78, .int .u8 84, .int .u8 82, .int .u8 89, .int .u8 49] magicL rfl 5 rfl (by decide) (w.heap.size + 1 + 1) (asz2 _ _ _))
  rw [← hW] at HB HW H0 HRB
  have HX := Lib.hid hW
  have HRow : Hid (∀ w', Below (w.heap.size + 1) W w' → Row w' w.heap.size 32 L) := Lib.hid (fun w' hb => H0.out.keep hb (Nat.lt_succ_self _))
  have hwx : IntKind.u8.wrap (x : Int) = (x : Int) := by rw [IntKind.wrap_u8]; omega
  have kc1 := Go.Joins.run_convert_bytes_const_at (P := Tryz.prog) ((w.alloc (.cells #[.int .u64 n, .int .u64 ep, .int .u64 f, .int .i64 x] 32)).alloc (.cells #[.slice none 0 0] 93)) 36 5 #[.int .u8 78, .int .u8 84, .int .u8 82, .int .u8 89, .int .u8 49] 5 5 (w.heap.size + 1 + 1) (asz2 _ _ _).symm Tryz.underlying36 Tryz.underlying5
  have E1 : Hid (magicL ++ wideL n 8 = magicL ++ wideL n 8) := Lib.hid rfl
  have E4 := Lib.hid (show magicL ++ wideL n 8 ++ wideL ep 8 ++ wideL f 8 ++ [UInt8.ofNat x] = headPay ⟨n, ep, f, x⟩ by simp [headPay])
  have l8 : ∀ v, (wideL v 8).length = 8 := fun v => WireMath.wideL_length v 8
  have LM : Hid (magicL.length = 5) := Lib.hid rfl
  have HPL := Lib.hid (headPay_length ⟨n, ep, f, x⟩)
  have HEN : Hid (encF n (headPay ⟨n, ep, f, x⟩) = (headL ⟨n, ep, f, x⟩, 0)) := Lib.hid (by unfold encF headL; rw [if_neg (by rw [HPL.out]; decide), if_neg (by intro e; rw [e] at HPL; exact absurd HPL.out (by decide))])
  have HHL := Lib.hid (headL_length ⟨n, ep, f, x⟩)
  generalize headPay ⟨n, ep, f, x⟩ = pay at *
  generalize headL ⟨n, ep, f, x⟩ = hd at *
  clear R0 hL hW
  go_enter Tryz.func17, Tryz.ntmps17
  go_wp2_with (first
    | (go_at_call 44; (with_reducible refine (segWide_calls x true HR.out _).mono ?_); rintro e1 w1 ⟨rfl, rfl⟩)
    | (go_at_call 45; rw [← HX.out]; go_loud (with_reducible refine ((HW.out.new (below_alloc1 (Below.refl _ _) (Nat.le_refl _) _)).raw _ magicL magicL 5 5 rfl HRB.out rfl (by decide)).mono ?_); rintro e2 w2 ⟨rfl, h2⟩; have d0 := (HRow.out _ h2.below).c 0 (.int .u64 n) (by rw [HL.out]; rfl); have tk2 := trivial)
    | (go_at_call 46; have tk := tk2; clear tk tk2; go_loud (with_reducible refine (h2.u64 (magicL ++ wideL n 8) n _ rfl rfl hk1 (by rw [LM.out]; decide)).mono ?_); rintro e3 w3 ⟨rfl, h3⟩; have d1 := (HRow.out _ h3.below).c 1 (.int .u64 ep) (by rw [HL.out]; rfl); have tk3 := trivial)
    | (go_at_call 46; have tk := tk3; clear tk tk3; go_loud (with_reducible refine (h3.u64 (magicL ++ wideL n 8 ++ wideL ep 8) ep _ rfl rfl hk2 (by rw [List.length_append, LM.out, l8]; decide)).mono ?_); rintro e4 w4 ⟨rfl, h4⟩; have d2 := (HRow.out _ h4.below).c 2 (.int .u64 f) (by rw [HL.out]; rfl); have tk4 := trivial)
    | (go_at_call 46; have tk := tk4; clear tk tk4; go_loud (with_reducible refine (h4.u64 (magicL ++ wideL n 8 ++ wideL ep 8 ++ wideL f 8) f _ rfl rfl hk3 (by rw [List.length_append, List.length_append, LM.out, l8, l8]; decide)).mono ?_); rintro e5 w5 ⟨rfl, h5⟩; have d3 := (HRow.out _ h5.below).c 3 (.int .i64 x) (by rw [HL.out]; rfl))
    | (go_at_call 47; go_loud (with_reducible refine (h5.u8 pay x _ rfl E4.out (by omega) (by rw [List.length_append, List.length_append, List.length_append, LM.out, l8, l8, l8]; decide)).mono ?_); rintro e6 w6 ⟨rfl, h6⟩; have q0 := (HRow.out _ h6.below).c 0 (.int .u64 n) (by rw [HL.out]; rfl)))
  clear d0 d1 d2 d3 h2 h3 h4 h5 c3 kc1 E1 E4 HRB HRow
  have hq := Lib.hid h6
  have HBx := Lib.hid (below_then HB.out (below_lowN h6.below (Nat.le_of_eq (by rw [HX.out, asz]))))
  have x0 : w6.drew.cell? ⟨w.heap.size, 0, none⟩ = some (.int .u64 n) := q0
  have H7 := Lib.hid (h6.new (Bl.drew w6))
  clear q0 h6
  go_region_held3 (fun w' => w'.cell? ⟨w.heap.size, 0, none⟩ = some (.int .u64 n)) (go_keep) (first
    | (go_at_call 49; go_loud (with_reducible refine (H7.out.bytes 30 HPL.out.symm (by rw [HPL.out]; decide)).mono ?_); rintro e7 w7 ⟨A7, c7, rfl, hn7⟩; have q7 := (hn7.below.cell (p := ⟨w.heap.size, 0, none⟩) (World.block_lt_of_cell? _ _ x0)).trans x0; have B7 := below_then HBx.out.drew hn7.below)
    | (go_at_call 48; go_loud (with_reducible refine (segEnc_calls n hk1 A7 pay 30 c7 _ hn7.own.rb HPL.out.symm hd HEN.out 48 HHL.out.symm).mono ?_); rintro e8 w8 ⟨A8, c8, rfl, hn8⟩; have q8 := (hn8.below.cell (p := ⟨w.heap.size, 0, none⟩) (World.block_lt_of_cell? _ _ q7)).trans q7))
  go_wp2
  go_ret2
  exact ⟨A8, c8, rfl, hn8.own.mono B7.size, below_then B7 hn8.below⟩
/-- as a caller spells it -/
theorem encHeadN (n ep f : Nat) (x : Int) (hn : n ≤ 18446744073709551615) (hep : ep ≤ 18446744073709551615) (hf : f ≤ 18446744073709551615) (q : List UInt8) (e : Nat) (hq : encH n ep f x = (q, e)) (m : Nat) (hm : m = q.length) (w : World) :
    Calls Tryz.prog 17 #[.agg #[.int .u64 n, .int .u64 ep, .int .u64 f, .int .i64 x]] w fun r w' => ∃ A c, r = .returned (.tuple #[.slice A m c, .int .i64 e]) ∧ NewB w w' (.slice A m c) q := by
  subst hm
  unfold encH at hq
  by_cases hx : 1 ≤ x ∧ x ≤ 32
  · rw [if_pos hx] at hq
    obtain ⟨rfl, rfl⟩ := Prod.mk.inj hq
    rw [headL_length]
    exact encHead_yes ⟨n, ep, f, x.toNat⟩ ⟨hn, hep, hf, by show 1 ≤ x.toNat; omega, by show x.toNat ≤ 32; omega⟩ x (by show x = ((x.toNat : Nat) : Int); omega) w
  · rw [if_neg hx] at hq
    obtain ⟨rfl, rfl⟩ := Prod.mk.inj hq
    exact (encHead_no n ep f x hx w).mono fun r w' ⟨h1, h2⟩ => ⟨none, 0, h1, OB.nil _ _ _, h2⟩
/-! ### EncodeBatch -/
/-- what EncodeBatch answers -/
def segB (f : Nat) (l : List En) : List UInt8 × Nat := if (encBF f l).2 = 0 then (laid f (encBF f l).1, 0) else ([], (encBF f l).2)
end Go.Proofs.YtpmnnnbkbcpgjaaGreatDoor

/- The walk of segment.EncodeBatch. -/
namespace Go.Proofs.YtpmnnnbkbcpgjaaGreatDoor
open Go.RowKit
open WireMath (wideL uvarL)
open FrameMath (laid)

theorem sum_enc (l : List En) (h : ∀ x ∈ l, chkF x = 0) : (l.flatMap encL).length ≤ 341 * l.length := by
  induction l with
  | nil => simp
  | cons x l ih =>
    have h1 := encL_length x
    have h2 := chk_small x (h x (by simp))
    have h3 := ih fun y hy => h y (by simp [hy])
    rw [List.flatMap_cons, List.length_append, List.length_cons]
    omega
theorem encBF_small (f : Nat) (l : List En) (q : List UInt8) (h : encBF f l = (q, 0)) : 4 ≤ q.length ∧ q.length ≤ 21844 := by
  obtain ⟨rfl, h2, _, h4, h5⟩ := encBF_ok f l q h
  refine ⟨encBL_least f l h2, ?_⟩
  have := sum_enc l h5
  have := WireMath.uvarL_length f
  have := WireMath.uvarL_length l.length
  unfold encBL
  simp only [List.length_append]
  omega
theorem encF_batch (f : Nat) (l : List En) (q : List UInt8) (h : encBF f l = (q, 0)) : encF f q = (laid f q, 0) := by
  have := encBF_small f l q h
  unfold encF
  rw [if_neg (by omega), if_neg]
  intro e
  rw [e] at this
  exact absurd this.1 (by decide)
theorem segB_len (f : Nat) (l : List En) : (segB f l).1.length ≤ 21862 := by
  unfold segB
  split
  · rename_i h
    have e : encBF f l = ((encBF f l).1, 0) := by rw [← h]
    have := encBF_small f l _ e
    simp only [FrameMath.laid_length]
    omega
  · simp
set_option maxRecDepth 100000 in
theorem segBatch_calls (f : Nat) (V : Int) (hV : V = f) (hf : f ≤ 18446744073709551615) (A : Option Addr) (n c : Nat) (es : List EnX) (w : World) (h : Ents w A es) (hn : n = es.length) (hl : n ≤ 9223372036854775807) (q : List UInt8) (e : Nat) (hq : segB f (ensOf es) = (q, e)) (m : Nat) (hm : m = q.length) :
    Calls Tryz.prog 20 #[.agg #[.int .u64 V, .slice A n c]] w fun r w' => ∃ A' c', r = .returned (.tuple #[.slice A' m c', .int .i64 e]) ∧ NewB w w' (.slice A' m c') q := by
  subst hV; subst hm
  unfold segB at hq
  have HB := Lib.hid (below_alloc1 (Below.refl w.heap.size w) (Nat.le_refl _) (.cells #[.int .u64 f, .slice A n c] 35))
  have T0 := Duo.fresh w w.heap.size rfl (.int .u64 f) (.slice A n c) 35
  have HE := Lib.hid (h.new HB.out)
  have c0 := T0.c0
  have c1 := T0.c1
  have HT := Lib.hid T0
  obtain ⟨p, e1, hp⟩ : ∃ p e1, encBF f (ensOf es) = (p, e1) := ⟨_, _, rfl⟩
  rw [hp] at hq
  simp only at hq
  have HP := Lib.hid hp
  have HN := Lib.hid hn
  clear T0 hn
  by_cases h0 : e1 = 0
  · subst h0
    rw [if_pos rfl] at hq
    obtain ⟨rfl, rfl⟩ := Prod.mk.inj hq
    have HF := Lib.hid (encF_batch f _ p hp)
    have HL := Lib.hid (FrameMath.laid_length f p)
    generalize laid f p = ld at *
    clear hp hq
    go_enter Tryz.func20, Tryz.ntmps20
    go_wp2_with (first
      | (go_at_call 52; go_loud (with_reducible refine (encB_calls f _ rfl hf A n c es _ HE.out HN.out hl p 0 HP.out).mono ?_); rintro r1 w1 ⟨A1, c1', rfl, hn1⟩; have T1 := HT.out.new hn1.below; have d0 := T1.c0; have B1 := Lib.hid (below_then HB.out hn1.below))
      | (go_at_call 48; go_loud (with_reducible refine (segEnc_calls f hf A1 p _ c1' _ hn1.own.rb rfl ld HF.out ld.length rfl).mono ?_); rintro r2 w2 ⟨A2, c2, rfl, hn2⟩))
    go_ret2
    exact ⟨A2, c2, rfl, hn2.own.mono B1.out.size, below_then B1.out hn2.below⟩
  · rw [if_neg h0] at hq
    obtain ⟨rfl, rfl⟩ := Prod.mk.inj hq
    have hb : ((e1 : Int) != 0) = true := by rw [bne_iff_ne]; omega
    clear hp hq h0
    go_enter Tryz.func20, Tryz.ntmps20
    go_wp2_with (first
      | (go_at_call 52; go_loud (with_reducible refine (encB_calls f _ rfl hf A n c es _ HE.out HN.out hl p e1 HP.out).mono ?_); rintro r1 w1 ⟨A1, c1', rfl, hn1⟩; have B1 := Lib.hid (below_then HB.out hn1.below)))
    go_ret2
    exact ⟨none, 0, rfl, OB.nil _ _ _, B1.out⟩
end Go.Proofs.YtpmnnnbkbcpgjaaGreatDoor

/- The walk of segment.head. -/
namespace Go.Proofs.YtpmnnnbkbcpgjaaGreatDoor
open Go.RowKit
open WireMath (wideL numS beN rawS)
open FrameMath (laid)

theorem results_hd {fn : Func} {p u : Tmp} (h : fn.results = #[.cell p 32, .tmp u]) (tmps : Array Value) (w : World) (b : Nat) (x y z t : Value) (hp : tmps.getD p undef = .pointer (some ⟨b, 0, none⟩)) (hr : Row w b 32 [x, y, z, t]) :
    (results fn tmps).run Tryz.prog w = .ok (.tuple #[.agg #[x, y, z, t], tmps.getD u undef]) w := by
  have hp' : tmps[p]?.getD undef = .pointer (some ⟨b, 0, none⟩) := by simpa using hp
  have hl := run_loadVar_mid (P := Tryz.prog) w b 0 32 [x, y, z, t] _ (fun j v hj => by
    rw [Nat.zero_add, hr.cell j]
    exact hj) Tryz.underlying32 rfl (by kernel_rfl)
  simp [results, h, hp', asAddr, hl]
theorem rrawN (F : Nat → Prop) (b : Nat) (P : List UInt8) (at_ : Nat) (n : Int) (q : List UInt8) (a e : Nat) (hq : rawS P at_ 0 n = (q, a, e)) (w : World) (hr : Rd w F b P at_ 0) (hl : P.length ≤ 140737488355328) (hn : n ≤ 9223372036854775807) :
    Calls Tryz.prog 100 #[.pointer (some ⟨b, 0, none⟩), .int .i64 n] w fun e' w' => ∃ A' c', e' = .returned (.slice A' q.length c') ∧ Got w w' F b P (.slice A' q.length c') (q, a, e) := by
  have := rraw_calls F b P at_ 0 n w hr hl hn
  rw [hq] at this
  exact this
theorem Row.put4 {w : World} {g : Nat} {T : TypeId} {a b c d : Value} (h : Row w g T [a, b, c, d]) (x y z t : Value) : Row ((((w.setCell ⟨g, 0, none⟩ x).setCell ⟨g, 1, none⟩ y).setCell ⟨g, 2, none⟩ z).setCell ⟨g, 3, none⟩ t) g T [x, y, z, t] :=
  (((h.set 0 x _ rfl).set 1 y _ rfl).set 2 z _ rfl).set 3 t _ rfl
theorem below_put4 {w0 w : World} {g : Nat} (h : Below w0.heap.size w0 w) (hg : w0.heap.size ≤ g) (x y z t : Value) : Below w0.heap.size w0 ((((w.setCell ⟨g, 0, none⟩ x).setCell ⟨g, 1, none⟩ y).setCell ⟨g, 2, none⟩ z).setCell ⟨g, 3, none⟩ t) :=
  (((h.setCell hg x).setCell hg y).setCell hg z).setCell hg t
set_option maxHeartbeats 400000 in
set_option maxRecDepth 100000 in
theorem head_no (place : Nat) (A : Option Addr) (Q : List UInt8) (n c : Nat) (w : World) (hq : RB w A c Q) (hn : n = Q.length) (hl : Q.length ≤ 140737488355328) (hm : Q.take 5 ≠ magicL) :
    Calls Tryz.prog 57 #[.agg #[.int .u64 place, .slice A n c]] w fun r w' => r = .returned (.tuple #[.agg #[.int .u64 0, .int .u64 0, .int .u64 0, .int .i64 0], .bool false]) ∧ Below w.heap.size w w' := by
  subst hn
  have hrs : ∃ q a e, rawS Q 0 0 5 = (q, a, e) ∧ q ≠ magicL := by
    unfold WireMath.rawS
    rw [if_neg (by simp), if_neg (by decide)]
    by_cases h : ((Q.length - 0 : Nat) : Int) < 5
    · rw [if_pos h]; exact ⟨_, _, _, rfl, by decide⟩
    · rw [if_neg h]; exact ⟨_, _, _, rfl, hm⟩
  obtain ⟨q, a, e, hraw, hne⟩ := hrs
  have HB := Lib.hid (belowA (below_alloc1 (Below.refl w.heap.size w) (Nat.le_refl _) (.cells #[.int .u64 place, .slice A Q.length c] 99)) (.cells #[.int .u64 0, .int .u64 0, .int .u64 0, .int .i64 0] 32))
  have P0 := (Duo.fresh w w.heap.size rfl (.int .u64 place) (.slice A Q.length c) 99).new (below_alloc1 (Below.refl _ _) (Nat.le_refl _) (.cells #[.int .u64 0, .int .u64 0, .int .u64 0, .int .i64 0] 32))
  have c1 := P0.c1
  have R0 := Row.fresh (w.alloc (.cells #[.int .u64 place, .slice A Q.length c] 99)) (w.heap.size + 1) (asz _ _).symm 32 [.int .u64 0, .int .u64 0, .int .u64 0, .int .i64 0] #[.int .u64 0, .int .u64 0, .int .u64 0, .int .i64 0] rfl
  have HR := Lib.hid R0
  have HQ := Lib.hid (hq.new HB.out)
  have HRAW := Lib.hid hraw
  have hs : ((strOf q).toList == [78, 84, 82, 89, 49]) = false := by rw [ByteArray.toList_eq, beq_eq_false_iff_ne]; exact hne
  have HS := Lib.hid hs
  clear hm hraw hne P0 R0 hs
  go_enter Tryz.func57, Tryz.ntmps57
  go_wp2_with (first
    | (go_at_call 94; go_loud (with_reducible refine (newReader_own A Q c _ _ HQ.out rfl hl).mono ?_); rintro e1 w1 ⟨b, F, rfl, hr1, hf1, hb1⟩)
    | (go_at_call 100; go_loud (with_reducible refine (rrawN F b Q 0 5 q a e HRAW.out _ hr1 hl (by decide)).mono ?_); rintro e2 w2 ⟨A2, c2, rfl, hg2⟩; have hst := run_str w2 A2 _ c2 q hg2.own.rb rfl; have B1 := below_then HB.out hb1; have HLO : w.heap.size + 1 < b := Nat.lt_of_lt_of_le (Nat.lt_of_lt_of_le (Nat.lt_succ_self _) (Nat.le_of_eq (asz2 _ _ _).symm)) (hf1.lo b hr1.lo); have B2 := below_reader B1 hg2.grown (by omega); have R2 := (HR.out.new hb1).grown hg2.grown (by omega); have r0 := R2.c 0 _ rfl; have r1 := R2.c 1 _ rfl; have r2 := R2.c 2 _ rfl; have r3 := R2.c 3 _ rfl; have f0 := R2.fz 0; have f1 := R2.fz 1; have f2 := R2.fz 2; have f3 := R2.fz 3; have HB2 := Lib.hid B2; have HR2 := Lib.hid R2; have hs2 := HS.out; clear hg2 hb1 hr1 B1 B2 R2))
  exact bodyPost_ret (results_hd rfl _ _ (w.heap.size + 1) _ _ _ _ rfl (HR2.out.put4 _ _ _ _)) rfl ⟨rfl, below_put4 HB2.out (Nat.le_succ _) _ _ _ _⟩
/-- what the reader takes behind the five letters -/
structure Hd4 (Q : List UInt8) (v1 a1 e1 v2 a2 e2 v3 a3 e3 v4 a4 e4 : Nat) : Prop where
  n1 : numS Q 5 0 8 = (v1, a1, e1)
  n2 : numS Q a1 e1 8 = (v2, a2, e2)
  n3 : numS Q a2 e2 8 = (v3, a3, e3)
  n4 : numS Q a3 e3 1 = (v4, a4, e4)
theorem hd4_lt {Q : List UInt8} {v1 a1 e1 v2 a2 e2 v3 a3 e3 v4 a4 e4 : Nat} (h : Hd4 Q v1 a1 e1 v2 a2 e2 v3 a3 e3 v4 a4 e4) : v1 ≤ 18446744073709551615 ∧ v2 ≤ 18446744073709551615 ∧ v3 ≤ 18446744073709551615 ∧ v4 ≤ 255 := by
  have h1 := numS_lt Q 5 0 8
  have h2 := numS_lt Q a1 e1 8
  have h3 := numS_lt Q a2 e2 8
  have h4 := numS_lt Q a3 e3 1
  rw [h.n1] at h1
  rw [h.n2] at h2
  rw [h.n3] at h3
  rw [h.n4] at h4
  have e8 : (256 : Nat) ^ 8 = 18446744073709551616 := by decide
  have e1' : (256 : Nat) ^ 1 = 256 := by decide
  simp only at h1 h2 h3 h4
  omega
/-- all is taken just where the payload has 30 bytes -/
theorem hd4_ok {Q : List UInt8} (h5 : 5 ≤ Q.length) {v1 a1 e1 v2 a2 e2 v3 a3 e3 v4 a4 e4 : Nat} (h : Hd4 Q v1 a1 e1 v2 a2 e2 v3 a3 e3 v4 a4 e4) :
    doneE Q a4 e4 = 0 ↔ Q.length = 30 := by
  have k1 := num_next Q 5 0 8 h5
  rw [h.n1] at k1
  have k2 := num_next Q a1 e1 8 k1.1
  rw [h.n2] at k2
  have k3 := num_next Q a2 e2 8 k2.1
  rw [h.n3] at k3
  have k4 := num_next Q a3 e3 1 k3.1
  rw [h.n4] at k4
  simp only at k1 k2 k3 k4
  unfold doneE
  constructor
  · intro hd
    split at hd
    · rename_i h9; omega
    · exact absurd hd (by decide)
  · intro hl
    have z1 : e1 = 0 := by
      have := num_ok Q 5 8 (by omega)
      rw [h.n1] at this
      exact (congrArg (·.2.2) this)
    subst z1
    have p1 := (k1.2 rfl).2.2
    have z2 : e2 = 0 := by
      have := num_ok Q a1 8 (by omega)
      rw [h.n2] at this
      exact (congrArg (·.2.2) this)
    subst z2
    have p2 := (k2.2 rfl).2.2
    have z3 : e3 = 0 := by
      have := num_ok Q a2 8 (by omega)
      rw [h.n3] at this
      exact (congrArg (·.2.2) this)
    subst z3
    have p3 := (k3.2 rfl).2.2
    have z4 : e4 = 0 := by
      have := num_ok Q a3 1 (by omega)
      rw [h.n4] at this
      exact (congrArg (·.2.2) this)
    subst z4
    have p4 := (k4.2 rfl).2.2
    rw [if_pos (by omega)]
theorem hd4_val {Q : List UInt8} (hl : Q.length = 30) {v1 a1 e1 v2 a2 e2 v3 a3 e3 v4 a4 e4 : Nat} (h : Hd4 Q v1 a1 e1 v2 a2 e2 v3 a3 e3 v4 a4 e4) : headV Q = ⟨v1, v2, v3, v4⟩ := by
  have q1 := h.n1.symm.trans (num_ok Q 5 8 (by omega))
  simp only [Prod.mk.injEq] at q1
  obtain ⟨rfl, rfl, rfl⟩ := q1
  have q2 := h.n2.symm.trans (num_ok Q (5 + 8) 8 (by omega))
  simp only [Prod.mk.injEq] at q2
  obtain ⟨rfl, rfl, rfl⟩ := q2
  have q3 := h.n3.symm.trans (num_ok Q (5 + 8 + 8) 8 (by omega))
  simp only [Prod.mk.injEq] at q3
  obtain ⟨rfl, rfl, rfl⟩ := q3
  have q4 := h.n4.symm.trans (num_ok Q (5 + 8 + 8 + 8) 1 (by omega))
  simp only [Prod.mk.injEq] at q4
  obtain ⟨rfl, rfl, rfl⟩ := q4
  rfl
theorem far4 {w : World} {g k : Nat} (hne : g ≠ k) {a b c d : Value} (h0 : w.cell? ⟨k, 0, none⟩ = some a) (h1 : w.cell? ⟨k, 1, none⟩ = some b) (h2 : w.cell? ⟨k, 2, none⟩ = some c) (h3 : w.cell? ⟨k, 3, none⟩ = some d) (x y z t : Value) :
    let w' := (((w.setCell ⟨g, 0, none⟩ x).setCell ⟨g, 1, none⟩ y).setCell ⟨g, 2, none⟩ z).setCell ⟨g, 3, none⟩ t
    w'.cell? ⟨k, 0, none⟩ = some a ∧ w'.cell? ⟨k, 1, none⟩ = some b ∧ w'.cell? ⟨k, 2, none⟩ = some c ∧ w'.cell? ⟨k, 3, none⟩ = some d := by
  have e : ∀ (w : World) (j i : Nat) (v : Value), (w.setCell ⟨g, j, none⟩ v).cell? ⟨k, i, none⟩ = w.cell? ⟨k, i, none⟩ := fun w j i v => World.cell?_setCell_other _ _ _ _ (by intro e; exact hne (by injection e))
  simp only [e]
  exact ⟨h0, h1, h2, h3⟩
set_option maxHeartbeats 800000 in
set_option maxRecDepth 100000 in
theorem head_yes (place : Nat) (A : Option Addr) (Q : List UInt8) (n c : Nat) (w : World) (hq : RB w A c Q) (hn : n = Q.length) (hl : Q.length ≤ 140737488355328) (hm : Q.take 5 = magicL) (v1 a1 e1 v2 a2 e2 v3 a3 e3 v4 a4 e4 : Nat) (hd : Hd4 Q v1 a1 e1 v2 a2 e2 v3 a3 e3 v4 a4 e4) :
    Calls Tryz.prog 57 #[.agg #[.int .u64 place, .slice A n c]] w fun r w' => r = .returned (.tuple #[.agg #[.int .u64 v1, .int .u64 v2, .int .u64 v3, .int .i64 v4], .bool (decide (headOk Q place))]) ∧ Below w.heap.size w w' := by
  subst hn
  have h5 : 5 ≤ Q.length := by have := congrArg List.length hm; rw [List.length_take] at this; simp [magicL] at this; omega
  have hraw : rawS Q 0 0 5 = (magicL, 5, 0) := by
    unfold WireMath.rawS
    rw [if_neg (by simp), if_neg (by decide), if_neg (by omega)]
    exact Prod.ext hm rfl
  obtain ⟨lt1, lt2, lt3, lt4⟩ := hd4_lt hd
  have N1 := Lib.hid hd.n1
  have N2 := Lib.hid hd.n2
  have N3 := Lib.hid hd.n3
  have N4 := Lib.hid hd.n4
  have HB := Lib.hid (belowA (below_alloc1 (Below.refl w.heap.size w) (Nat.le_refl _) (.cells #[.int .u64 place, .slice A Q.length c] 99)) (.cells #[.int .u64 0, .int .u64 0, .int .u64 0, .int .i64 0] 32))
  have P0 := (Duo.fresh w w.heap.size rfl (.int .u64 place) (.slice A Q.length c) 99).new (below_alloc1 (Below.refl _ _) (Nat.le_refl _) (.cells #[.int .u64 0, .int .u64 0, .int .u64 0, .int .i64 0] 32))
  have c1 := P0.c1
  have R0 := Row.fresh (w.alloc (.cells #[.int .u64 place, .slice A Q.length c] 99)) (w.heap.size + 1) (asz _ _).symm 32 [.int .u64 0, .int .u64 0, .int .u64 0, .int .i64 0] #[.int .u64 0, .int .u64 0, .int .u64 0, .int .i64 0] rfl
  have HR := Lib.hid R0
  have HP := Lib.hid P0
  have HQ := Lib.hid (hq.new HB.out)
  have HRAW := Lib.hid hraw
  have hs : ((strOf magicL).toList == [78, 84, 82, 89, 49]) = true := by rw [ByteArray.toList_eq]; rfl
  have hl9 : Q.length ≤ 9223372036854775807 := by omega
  have w4 : IntKind.i64.wrap (v4 : Int) = v4 := by rw [IntKind.wrap_i64]; omega
  have HD := Lib.hid hd
  have HM := Lib.hid hm
  clear hm hraw P0 R0 hd
  generalize hg : strOf magicL = sg at *
  have HSG := Lib.hid hg
  clear hg
  go_enter Tryz.func57, Tryz.ntmps57
  go_wp2_with (first
    | (go_at_call 94; go_loud (with_reducible refine (newReader_own A Q c _ _ HQ.out rfl hl).mono ?_); rintro e1 w1 ⟨b, F, rfl, hr1, hf1, hb1⟩)
    | (go_at_call 100; go_loud (with_reducible refine (rrawN F b Q 0 5 magicL 5 0 HRAW.out _ hr1 hl (by decide)).mono ?_); rintro e2 w2 ⟨A2, c2, rfl, hg2⟩; have hst := run_str w2 A2 _ c2 magicL hg2.own.rb rfl; rw [HSG.out] at hst; have HLO : w.heap.size + 1 < b := Nat.lt_of_lt_of_le (Nat.lt_of_lt_of_le (Nat.lt_succ_self _) (Nat.le_of_eq (asz2 _ _ _).symm)) (hf1.lo b hr1.lo); have R2 := (HR.out.new hb1).grown hg2.grown (by omega); have P2 := (HP.out.new hb1).grown hg2.grown (by omega); have B2 := below_reader (below_then HB.out hb1) hg2.grown (by omega); have q2 := hg2.rd; have tk2 := trivial)
    | (go_at_call 97; have tk := tk2; clear tk tk2; go_loud (with_reducible refine (ru64N F b Q 5 0 v1 a1 e1 (by rw [N1.out]) (by rw [N1.out]) (by rw [N1.out]) _ q2 hl9).mono ?_); rintro r3 w3 ⟨rfl, q3, g3⟩; have R3 := R2.grown g3 (by omega); have P3 := P2.grown g3 (by omega); have B3 := below_reader B2 g3 (by omega); have tk3 := trivial)
    | (go_at_call 97; have tk := tk3; clear tk tk3; go_loud (with_reducible refine (ru64N F b Q a1 e1 v2 a2 e2 (by rw [N2.out]) (by rw [N2.out]) (by rw [N2.out]) _ q3 hl9).mono ?_); rintro r4 w4' ⟨rfl, q4, g4⟩; have R4 := R3.grown g4 (by omega); have P4 := P3.grown g4 (by omega); have B4 := below_reader B3 g4 (by omega); have tk4 := trivial)
    | (go_at_call 97; have tk := tk4; clear tk tk4; go_loud (with_reducible refine (ru64N F b Q a2 e2 v3 a3 e3 (by rw [N3.out]) (by rw [N3.out]) (by rw [N3.out]) _ q4 hl9).mono ?_); rintro r5 w5 ⟨rfl, q5, g5⟩; have R5 := R4.grown g5 (by omega); have P5 := P4.grown g5 (by omega); have B5 := below_reader B4 g5 (by omega))
    | (go_at_call 95; go_loud (with_reducible refine (ru8N F b Q a3 e3 v4 a4 e4 (by rw [N4.out]) (by rw [N4.out]) (by rw [N4.out]) _ q5 hl9).mono ?_); rintro r6 w6 ⟨rfl, q6, g6⟩; have R6 := R5.grown g6 (by omega); have P6 := P5.grown g6 (by omega); have B6 := below_reader B5 g6 (by omega)))
  have T6 := Row.fresh w6 w6.heap.size rfl 32 [.int .u64 v1, .int .u64 v2, .int .u64 v3, .int .i64 v4] #[.int .u64 v1, .int .u64 v2, .int .u64 v3, .int .i64 v4] rfl
  have n6 := Bl.alloc w6 (.cells #[.int .u64 v1, .int .u64 v2, .int .u64 v3, .int .i64 v4] 32)
  have q7 := Lib.hid ((q6.new n6).new (Bl.drew _))
  have HR7 := Lib.hid ((R6.new n6).drew)
  have HB7 := Lib.hid (belowA B6 (.cells #[.int .u64 v1, .int .u64 v2, .int .u64 v3, .int .i64 v4] 32))
  have t0 := T6.c 0 _ rfl
  have t1 := T6.c 1 _ rfl
  have t2 := T6.c 2 _ rfl
  have t3 := T6.c 3 _ rfl
  have p0 := (P6.new n6).c0
  have r0 := (R6.new n6).c 0 _ rfl
  have r1 := (R6.new n6).c 1 _ rfl
  have r2 := (R6.new n6).c 2 _ rfl
  have r3 := (R6.new n6).c 3 _ rfl
  have f0 := (R6.new n6).fz 0
  have f1 := (R6.new n6).fz 1
  have f2 := (R6.new n6).fz 2
  have f3 := (R6.new n6).fz 3
  have ne : w.heap.size + 1 ≠ w6.heap.size := Nat.ne_of_lt R6.lt
  have ne2 : w6.heap.size ≠ w.heap.size + 1 := Nat.ne_of_gt R6.lt
  have HH5 := Lib.hid h5
  clear R2 R3 R4 R5 R6 P2 P3 P4 P5 P6 B2 B3 B4 B5 B6 q2 q3 q4 q5 q6 T6 n6 hr1 hf1 hb1 hg2 g3 g4 g5 g6 c1 hst hs HR HP HQ HRAW N1 N2 N3 N4 h5 w4 hq
  generalize (w6.alloc (.cells #[.int .u64 v1, .int .u64 v2, .int .u64 v3, .int .i64 v4] 32)) = w7 at *
  have hdone := hd4_ok HH5.out HD.out
  by_cases hd0 : doneE Q a4 e4 = 0
  · have HL := Lib.hid (hdone.1 hd0)
    have hdz : (0 : Int) = doneE Q a4 e4 := by rw [hd0]; rfl
    have HDZ := Lib.hid hdz
    clear hdone hd0 hdz
    by_cases hw : 1 ≤ v4 ∧ v4 ≤ 32
    · have HW := Lib.hid (show decide (1 ≤ (v4 : Int) ∧ (v4 : Int) ≤ 32) = true by rw [decide_eq_true_iff]; omega)
      have HF := Lib.hid (show decide (headOk Q place) = ((v1 : Int) == (place : Int)) by
        rw [Bool.eq_iff_iff, decide_eq_true_iff, beq_iff_eq]
        unfold headOk
        rw [hd4_val HL.out HD.out]
        constructor
        · intro h; have := h.2.2.2.2; simp only at this; omega
        · intro h; exact ⟨HM.out, HL.out, hw.1, hw.2, by simp only; omega⟩)
      clear hw
      go_region_held3 (fun w' => w'.cell? ⟨w6.heap.size, 0, none⟩ = some (.int .u64 v1) ∧ w'.cell? ⟨w6.heap.size, 1, none⟩ = some (.int .u64 v2) ∧ w'.cell? ⟨w6.heap.size, 2, none⟩ = some (.int .u64 v3) ∧ w'.cell? ⟨w6.heap.size, 3, none⟩ = some (.int .i64 v4) ∧ w'.cell? ⟨w.heap.size, 0, none⟩ = some (.int .u64 place)) (go_keep) (first
        | (go_at_call 101; go_loud (with_reducible refine (doneN F b Q a4 e4 0 HDZ.out _ q7.out).mono ?_); rintro e8 w8 ⟨rfl, hd8⟩; have R8 := HR7.out.new (hd8.below _); have B8 := Lib.hid (below_then HB7.out.drew (hd8.below _)); have r0 := R8.c 0 _ rfl; have r1 := R8.c 1 _ rfl; have r2 := R8.c 2 _ rfl; have r3 := R8.c 3 _ rfl; have f0 := R8.fz 0; have f1 := R8.fz 1; have f2 := R8.fz 2; have f3 := R8.fz 3; have t0 := hd8.cell t0; have t1 := hd8.cell t1; have t2 := hd8.cell t2; have t3 := hd8.cell t3; have p0 := hd8.cell p0; have R8 := Lib.hid R8)
        | (go_at_call 44; go_loud (with_reducible refine (segWide_calls v4 true HW.out _).mono ?_); rintro e9 w9 ⟨rfl, rfl⟩))
      go_wp2
      exact bodyPost_ret (results_hd rfl _ _ (w.heap.size + 1) _ _ _ _ rfl (R8.out.put4 _ _ _ _)) rfl ⟨by rw [HF.out]; rfl, below_put4 B8.out (Nat.le_succ _) _ _ _ _⟩
    · have HW := Lib.hid (show decide (1 ≤ (v4 : Int) ∧ (v4 : Int) ≤ 32) = false by rw [decide_eq_false_iff_not]; omega)
      have HF := Lib.hid (show decide (headOk Q place) = false by
        rw [decide_eq_false_iff_not]
        unfold headOk
        rw [hd4_val HL.out HD.out]
        exact fun h => hw ⟨h.2.2.1, h.2.2.2.1⟩)
      clear hw
      refine wp_region_held_drew (S := (fun w' => w'.cell? ⟨w6.heap.size, 0, none⟩ = some (.int .u64 v1) ∧ w'.cell? ⟨w6.heap.size, 1, none⟩ = some (.int .u64 v2) ∧ w'.cell? ⟨w6.heap.size, 2, none⟩ = some (.int .u64 v3) ∧ w'.cell? ⟨w6.heap.size, 3, none⟩ = some (.int .i64 v4))) (by kernel_rfl) ⟨t0, t1, t2, t3⟩ (fun hHeld => ?_)
      refine wpAnyH_take (i := 0) (v := .agg #[.int .u64 v1, .int .u64 v2, .int .u64 v3, .int .i64 v4]) rfl (by kernel_rfl) (by kernel_rfl) (by kernel_rfl) (fun _ _ _ h => h) (Or.inl ⟨by rfl, fun w hS => by obtain ⟨s0, s1, s2, s3⟩ := hS; go_simp⟩) (by assumption) ?_
      try simp only [Act.put, List.getElem_toArray, List.getElem_cons_succ, List.getElem_cons_zero, List.setIfInBounds_toArray, List.set_cons_zero, List.set_cons_succ]
      refine wpAnyH_take (i := 1) (v := .pointer (some ⟨b, 0, none⟩)) rfl (by kernel_rfl) (by kernel_rfl) (by kernel_rfl) (fun _ _ _ h => h) (Or.inl ⟨by rfl, fun w hS => by go_simp⟩) (by assumption) ?_
      try simp only [Act.put, List.getElem_toArray, List.getElem_cons_succ, List.getElem_cons_zero, List.setIfInBounds_toArray, List.set_cons_zero, List.set_cons_succ]
      refine wpAnyH_ready (rs := [2]) (by kernel_rfl) (by simp) ?_
      refine AllReadyH.cons rfl (fun K hK => ?_) AllReadyH.nil
      go_simp
      (go_at_call 101; (with_reducible refine (doneN F b Q a4 e4 0 HDZ.out _ q7.out).mono ?_); rintro e8 w8 ⟨rfl, hd8⟩)
      have R8 := HR7.out.new (hd8.below _)
      have B8 := Lib.hid (below_then HB7.out.drew (hd8.below _))
      try dsimp only
      refine hK.out _ _ ⟨hd8.cell t0, hd8.cell t1, hd8.cell t2, hd8.cell t3⟩ (fun hHeld => ?_)
      clear hK K
      try simp only [Act.put, List.getElem_toArray, List.getElem_cons_succ, List.getElem_cons_zero, List.setIfInBounds_toArray, List.set_cons_zero, List.set_cons_succ]
      clear r0 r1 r2 r3 f0 f1 f2 f3 t0 t1 t2 t3 p0
      refine wpAnyH_take (i := 3) (v := .bool true) rfl (by kernel_rfl) (by kernel_rfl) (by kernel_rfl) (fun _ _ _ h => h) (Or.inl ⟨by rfl, fun w hS => by go_simp⟩) (by assumption) ?_
      try simp only [Act.put, List.getElem_toArray, List.getElem_cons_succ, List.getElem_cons_zero, List.setIfInBounds_toArray, List.set_cons_zero, List.set_cons_succ]
      refine wpAnyH_take (i := 4) (v := .bool true) rfl (by kernel_rfl) (by kernel_rfl) (by kernel_rfl) (fun _ _ _ h => h) (Or.inl ⟨by rfl, fun w hS => by go_simp⟩) (by assumption) ?_
      try simp only [Act.put, List.getElem_toArray, List.getElem_cons_succ, List.getElem_cons_zero, List.setIfInBounds_toArray, List.set_cons_zero, List.set_cons_succ]
      refine wpAnyH_take (i := 5) (v := .pointer (some ⟨w6.heap.size, 3, none⟩)) rfl (by kernel_rfl) (by kernel_rfl) (by kernel_rfl) (fun _ _ _ h => h) (Or.inl ⟨by rfl, fun w hS => by go_simp⟩) (by assumption) ?_
      try simp only [Act.put, List.getElem_toArray, List.getElem_cons_succ, List.getElem_cons_zero, List.setIfInBounds_toArray, List.set_cons_zero, List.set_cons_succ]
      refine wpAnyH_take (i := 6) (v := .int .i64 v4) rfl (by kernel_rfl) (by kernel_rfl) (by kernel_rfl) (fun _ _ _ h => h) (Or.inl ⟨by rfl, fun w hS => by obtain ⟨s0, s1, s2, s3⟩ := hS; go_simp⟩) (by assumption) ?_
      try simp only [Act.put, List.getElem_toArray, List.getElem_cons_succ, List.getElem_cons_zero, List.setIfInBounds_toArray, List.set_cons_zero, List.set_cons_succ]
      refine wpAnyH_ready (rs := [7]) (by kernel_rfl) (by simp) ?_
      refine AllReadyH.cons rfl (fun K hK => ?_) AllReadyH.nil
      go_simp
      (go_at_call 44; (with_reducible refine (segWide_calls v4 false HW.out _).mono ?_); rintro e9 w9 ⟨rfl, rfl⟩)
      try dsimp only
      refine hK.out _ _ hHeld (fun hHeld => ?_)
      clear hK K
      try simp only [Act.put, List.getElem_toArray, List.getElem_cons_succ, List.getElem_cons_zero, List.setIfInBounds_toArray, List.set_cons_zero, List.set_cons_succ]
      refine wpAnyH_take (i := 8) (v := .bool false) rfl (by kernel_rfl) (by kernel_rfl) (by kernel_rfl) (fun _ _ _ h => h) (Or.inl ⟨by rfl, fun w hS => by go_simp⟩) (by assumption) ?_
      try simp only [Act.put, List.getElem_toArray, List.getElem_cons_succ, List.getElem_cons_zero, List.setIfInBounds_toArray, List.set_cons_zero, List.set_cons_succ]
      refine wpAnyH_take (i := 9) (v := .bool false) rfl (by kernel_rfl) (by kernel_rfl) (by kernel_rfl) (fun _ _ _ h => h) (Or.inl ⟨by rfl, fun w hS => by go_simp⟩) (by assumption) ?_
      try simp only [Act.put, List.getElem_toArray, List.getElem_cons_succ, List.getElem_cons_zero, List.setIfInBounds_toArray, List.set_cons_zero, List.set_cons_succ]
      refine wpAnyH_take (i := 10) (v := undef) rfl (by kernel_rfl) (by kernel_rfl) (by kernel_rfl) (fun _ _ _ h => h) (Or.inr ⟨by rfl, rfl⟩) (by assumption) ?_
      try simp only [Act.put, List.getElem_toArray, List.getElem_cons_succ, List.getElem_cons_zero, List.setIfInBounds_toArray, List.set_cons_zero, List.set_cons_succ]
      refine wpAnyH_take (i := 11) (v := undef) rfl (by kernel_rfl) (by kernel_rfl) (by kernel_rfl) (fun _ _ _ h => h) (Or.inr ⟨by rfl, rfl⟩) (by assumption) ?_
      try simp only [Act.put, List.getElem_toArray, List.getElem_cons_succ, List.getElem_cons_zero, List.setIfInBounds_toArray, List.set_cons_zero, List.set_cons_succ]
      refine wpAnyH_take (i := 12) (v := undef) rfl (by kernel_rfl) (by kernel_rfl) (by kernel_rfl) (fun _ _ _ h => h) (Or.inr ⟨by rfl, rfl⟩) (by assumption) ?_
      try simp only [Act.put, List.getElem_toArray, List.getElem_cons_succ, List.getElem_cons_zero, List.setIfInBounds_toArray, List.set_cons_zero, List.set_cons_succ]
      refine wpAnyH_take (i := 13) (v := undef) rfl (by kernel_rfl) (by kernel_rfl) (by kernel_rfl) (fun _ _ _ h => h) (Or.inr ⟨by rfl, rfl⟩) (by assumption) ?_
      try simp only [Act.put, List.getElem_toArray, List.getElem_cons_succ, List.getElem_cons_zero, List.setIfInBounds_toArray, List.set_cons_zero, List.set_cons_succ]
      refine wpAnyH_take (i := 14) (v := undef) rfl (by kernel_rfl) (by kernel_rfl) (by kernel_rfl) (fun _ _ _ h => h) (Or.inr ⟨by rfl, rfl⟩) (by assumption) ?_
      try simp only [Act.put, List.getElem_toArray, List.getElem_cons_succ, List.getElem_cons_zero, List.setIfInBounds_toArray, List.set_cons_zero, List.set_cons_succ]
      refine wpAnyH_take (i := 15) (v := .bool false) rfl (by kernel_rfl) (by kernel_rfl) (by kernel_rfl) (fun _ _ _ h => h) (Or.inl ⟨by rfl, fun w hS => by go_simp⟩) (by assumption) ?_
      try simp only [Act.put, List.getElem_toArray, List.getElem_cons_succ, List.getElem_cons_zero, List.setIfInBounds_toArray, List.set_cons_zero, List.set_cons_succ]
      have r0 := R8.c 0 _ rfl; have r1 := R8.c 1 _ rfl; have r2 := R8.c 2 _ rfl; have r3 := R8.c 3 _ rfl
      have f0 := R8.fz 0; have f1 := R8.fz 1; have f2 := R8.fz 2; have f3 := R8.fz 3
      have hF := far4 ne hHeld.1 hHeld.2.1 hHeld.2.2.1 hHeld.2.2.2 (.int .u64 v1) (.int .u64 v2) (.int .u64 v3) (.int .i64 v4)
      have R8 := Lib.hid R8
      have hF := Lib.hid hF
      refine wpAnyH_ready (rs := [16]) (by kernel_rfl) (by simp) ?_
      refine AllReadyH.cons rfl (fun K hK => ?_) AllReadyH.nil
      go_simp
      try dsimp only
      refine hK.out _ _ hF.out (fun hHeld => ?_)
      clear hK K
      try simp only [Act.put, List.getElem_toArray, List.getElem_cons_succ, List.getElem_cons_zero, List.setIfInBounds_toArray, List.set_cons_zero, List.set_cons_succ]
      refine wpAnyH_take (i := 17) (v := .bool false) rfl (by kernel_rfl) (by kernel_rfl) (by kernel_rfl) (fun _ _ _ h => h) (Or.inl ⟨by rfl, fun w hS => by go_simp⟩) (by assumption) ?_
      try simp only [Act.put, List.getElem_toArray, List.getElem_cons_succ, List.getElem_cons_zero, List.setIfInBounds_toArray, List.set_cons_zero, List.set_cons_succ]
      refine wpAnyH_done (by kernel_rfl) ?_ _
      go_wp2
      exact bodyPost_ret (results_hd rfl _ _ (w.heap.size + 1) _ _ _ _ rfl (R8.out.put4 _ _ _ _)) rfl ⟨by rw [HF.out]; rfl, below_put4 B8.out (Nat.le_succ _) _ _ _ _⟩
  · have HF := Lib.hid (show decide (headOk Q place) = false by
      rw [decide_eq_false_iff_not]
      exact fun h => hd0 (hdone.2 h.2.1))
    obtain ⟨d, hdd⟩ : ∃ d : Nat, d = doneE Q a4 e4 := ⟨_, rfl⟩
    have HDZ := Lib.hid (show (d : Int) = (doneE Q a4 e4 : Nat) by rw [hdd])
    have hdb : ((d : Int) == 0) = false := by rw [beq_eq_false_iff_ne]; omega
    clear hdone hd0 hdd
    refine wp_region_held_drew (S := (fun w' => w'.cell? ⟨w6.heap.size, 0, none⟩ = some (.int .u64 v1) ∧ w'.cell? ⟨w6.heap.size, 1, none⟩ = some (.int .u64 v2) ∧ w'.cell? ⟨w6.heap.size, 2, none⟩ = some (.int .u64 v3) ∧ w'.cell? ⟨w6.heap.size, 3, none⟩ = some (.int .i64 v4))) (by kernel_rfl) ⟨t0, t1, t2, t3⟩ (fun hHeld => ?_)
    refine wpAnyH_take (i := 0) (v := .agg #[.int .u64 v1, .int .u64 v2, .int .u64 v3, .int .i64 v4]) rfl (by kernel_rfl) (by kernel_rfl) (by kernel_rfl) (fun _ _ _ h => h) (Or.inl ⟨by rfl, fun w hS => by obtain ⟨s0, s1, s2, s3⟩ := hS; go_simp⟩) (by assumption) ?_
    try simp only [Act.put, List.getElem_toArray, List.getElem_cons_succ, List.getElem_cons_zero, List.setIfInBounds_toArray, List.set_cons_zero, List.set_cons_succ]
    refine wpAnyH_take (i := 1) (v := .pointer (some ⟨b, 0, none⟩)) rfl (by kernel_rfl) (by kernel_rfl) (by kernel_rfl) (fun _ _ _ h => h) (Or.inl ⟨by rfl, fun w hS => by go_simp⟩) (by assumption) ?_
    try simp only [Act.put, List.getElem_toArray, List.getElem_cons_succ, List.getElem_cons_zero, List.setIfInBounds_toArray, List.set_cons_zero, List.set_cons_succ]
    refine wpAnyH_ready (rs := [2]) (by kernel_rfl) (by simp) ?_
    refine AllReadyH.cons rfl (fun K hK => ?_) AllReadyH.nil
    go_simp
    (go_at_call 101; (with_reducible refine (doneN F b Q a4 e4 d HDZ.out _ q7.out).mono ?_); rintro e8 w8 ⟨rfl, hd8⟩)
    have R8 := HR7.out.new (hd8.below _)
    have B8 := Lib.hid (below_then HB7.out.drew (hd8.below _))
    try dsimp only
    refine hK.out _ _ ⟨hd8.cell t0, hd8.cell t1, hd8.cell t2, hd8.cell t3⟩ (fun hHeld => ?_)
    clear hK K
    try simp only [Act.put, List.getElem_toArray, List.getElem_cons_succ, List.getElem_cons_zero, List.setIfInBounds_toArray, List.set_cons_zero, List.set_cons_succ]
    clear r0 r1 r2 r3 f0 f1 f2 f3 t0 t1 t2 t3 p0
    refine wpAnyH_take (i := 3) (v := .bool false) rfl (by kernel_rfl) (by kernel_rfl) (by kernel_rfl) (fun _ _ _ h => h) (Or.inl ⟨by rfl, fun w hS => by go_simp⟩) (by assumption) ?_
    try simp only [Act.put, List.getElem_toArray, List.getElem_cons_succ, List.getElem_cons_zero, List.setIfInBounds_toArray, List.set_cons_zero, List.set_cons_succ]
    refine wpAnyH_take (i := 4) (v := .bool false) rfl (by kernel_rfl) (by kernel_rfl) (by kernel_rfl) (fun _ _ _ h => h) (Or.inl ⟨by rfl, fun w hS => by go_simp⟩) (by assumption) ?_
    try simp only [Act.put, List.getElem_toArray, List.getElem_cons_succ, List.getElem_cons_zero, List.setIfInBounds_toArray, List.set_cons_zero, List.set_cons_succ]
    refine wpAnyH_take (i := 5) (v := undef) rfl (by kernel_rfl) (by kernel_rfl) (by kernel_rfl) (fun _ _ _ h => h) (Or.inr ⟨by rfl, rfl⟩) (by assumption) ?_
    try simp only [Act.put, List.getElem_toArray, List.getElem_cons_succ, List.getElem_cons_zero, List.setIfInBounds_toArray, List.set_cons_zero, List.set_cons_succ]
    refine wpAnyH_take (i := 6) (v := undef) rfl (by kernel_rfl) (by kernel_rfl) (by kernel_rfl) (fun _ _ _ h => h) (Or.inr ⟨by rfl, rfl⟩) (by assumption) ?_
    try simp only [Act.put, List.getElem_toArray, List.getElem_cons_succ, List.getElem_cons_zero, List.setIfInBounds_toArray, List.set_cons_zero, List.set_cons_succ]
    refine wpAnyH_take (i := 7) (v := undef) rfl (by kernel_rfl) (by kernel_rfl) (by kernel_rfl) (fun _ _ _ h => h) (Or.inr ⟨by rfl, rfl⟩) (by assumption) ?_
    try simp only [Act.put, List.getElem_toArray, List.getElem_cons_succ, List.getElem_cons_zero, List.setIfInBounds_toArray, List.set_cons_zero, List.set_cons_succ]
    refine wpAnyH_take (i := 8) (v := .bool false) rfl (by kernel_rfl) (by kernel_rfl) (by kernel_rfl) (fun _ _ _ h => h) (Or.inl ⟨by rfl, fun w hS => by go_simp⟩) (by assumption) ?_
    try simp only [Act.put, List.getElem_toArray, List.getElem_cons_succ, List.getElem_cons_zero, List.setIfInBounds_toArray, List.set_cons_zero, List.set_cons_succ]
    refine wpAnyH_take (i := 9) (v := .bool false) rfl (by kernel_rfl) (by kernel_rfl) (by kernel_rfl) (fun _ _ _ h => h) (Or.inl ⟨by rfl, fun w hS => by go_simp⟩) (by assumption) ?_
    try simp only [Act.put, List.getElem_toArray, List.getElem_cons_succ, List.getElem_cons_zero, List.setIfInBounds_toArray, List.set_cons_zero, List.set_cons_succ]
    refine wpAnyH_take (i := 10) (v := undef) rfl (by kernel_rfl) (by kernel_rfl) (by kernel_rfl) (fun _ _ _ h => h) (Or.inr ⟨by rfl, rfl⟩) (by assumption) ?_
    try simp only [Act.put, List.getElem_toArray, List.getElem_cons_succ, List.getElem_cons_zero, List.setIfInBounds_toArray, List.set_cons_zero, List.set_cons_succ]
    refine wpAnyH_take (i := 11) (v := undef) rfl (by kernel_rfl) (by kernel_rfl) (by kernel_rfl) (fun _ _ _ h => h) (Or.inr ⟨by rfl, rfl⟩) (by assumption) ?_
    try simp only [Act.put, List.getElem_toArray, List.getElem_cons_succ, List.getElem_cons_zero, List.setIfInBounds_toArray, List.set_cons_zero, List.set_cons_succ]
    refine wpAnyH_take (i := 12) (v := undef) rfl (by kernel_rfl) (by kernel_rfl) (by kernel_rfl) (fun _ _ _ h => h) (Or.inr ⟨by rfl, rfl⟩) (by assumption) ?_
    try simp only [Act.put, List.getElem_toArray, List.getElem_cons_succ, List.getElem_cons_zero, List.setIfInBounds_toArray, List.set_cons_zero, List.set_cons_succ]
    refine wpAnyH_take (i := 13) (v := undef) rfl (by kernel_rfl) (by kernel_rfl) (by kernel_rfl) (fun _ _ _ h => h) (Or.inr ⟨by rfl, rfl⟩) (by assumption) ?_
    try simp only [Act.put, List.getElem_toArray, List.getElem_cons_succ, List.getElem_cons_zero, List.setIfInBounds_toArray, List.set_cons_zero, List.set_cons_succ]
    refine wpAnyH_take (i := 14) (v := undef) rfl (by kernel_rfl) (by kernel_rfl) (by kernel_rfl) (fun _ _ _ h => h) (Or.inr ⟨by rfl, rfl⟩) (by assumption) ?_
    try simp only [Act.put, List.getElem_toArray, List.getElem_cons_succ, List.getElem_cons_zero, List.setIfInBounds_toArray, List.set_cons_zero, List.set_cons_succ]
    refine wpAnyH_take (i := 15) (v := .bool false) rfl (by kernel_rfl) (by kernel_rfl) (by kernel_rfl) (fun _ _ _ h => h) (Or.inl ⟨by rfl, fun w hS => by go_simp⟩) (by assumption) ?_
    try simp only [Act.put, List.getElem_toArray, List.getElem_cons_succ, List.getElem_cons_zero, List.setIfInBounds_toArray, List.set_cons_zero, List.set_cons_succ]
    have r0 := R8.c 0 _ rfl; have r1 := R8.c 1 _ rfl; have r2 := R8.c 2 _ rfl; have r3 := R8.c 3 _ rfl
    have f0 := R8.fz 0; have f1 := R8.fz 1; have f2 := R8.fz 2; have f3 := R8.fz 3
    have hF := far4 ne hHeld.1 hHeld.2.1 hHeld.2.2.1 hHeld.2.2.2 (.int .u64 v1) (.int .u64 v2) (.int .u64 v3) (.int .i64 v4)
    have R8 := Lib.hid R8
    have hF := Lib.hid hF
    refine wpAnyH_ready (rs := [16]) (by kernel_rfl) (by simp) ?_
    refine AllReadyH.cons rfl (fun K hK => ?_) AllReadyH.nil
    go_simp
    try dsimp only
    refine hK.out _ _ hF.out (fun hHeld => ?_)
    clear hK K
    try simp only [Act.put, List.getElem_toArray, List.getElem_cons_succ, List.getElem_cons_zero, List.setIfInBounds_toArray, List.set_cons_zero, List.set_cons_succ]
    refine wpAnyH_take (i := 17) (v := .bool false) rfl (by kernel_rfl) (by kernel_rfl) (by kernel_rfl) (fun _ _ _ h => h) (Or.inl ⟨by rfl, fun w hS => by go_simp⟩) (by assumption) ?_
    try simp only [Act.put, List.getElem_toArray, List.getElem_cons_succ, List.getElem_cons_zero, List.setIfInBounds_toArray, List.set_cons_zero, List.set_cons_succ]
    refine wpAnyH_done (by kernel_rfl) ?_ _
    go_wp2
    exact bodyPost_ret (results_hd rfl _ _ (w.heap.size + 1) _ _ _ _ rfl (R8.out.put4 _ _ _ _)) rfl ⟨by rw [HF.out]; rfl, below_put4 B8.out (Nat.le_succ _) _ _ _ _⟩
end Go.Proofs.YtpmnnnbkbcpgjaaGreatDoor

/- Plain laws of layer 8: what was laid down is read. -/
namespace Go.Proofs.YtpmnnnbkbcpgjaaGreatDoor
open FrameMath (laid)

/-- the frames of batches from an index on -/
def frB : Nat → List (List En) → List UInt8
  | _, [] => []
  | ix, l :: ls => laid ix (encBL ix l) ++ frB (ix + l.length) ls
def ixB : Nat → List (List En) → List (Nat × List En)
  | _, [] => []
  | ix, l :: ls => (ix, l) :: ixB (ix + l.length) ls
def endIx : Nat → List (List En) → Nat
  | ix, [] => ix
  | ix, l :: ls => endIx (ix + l.length) ls
def okBs : Nat → List (List En) → Prop
  | _, [] => True
  | ix, l :: ls => encBF ix l = (encBL ix l, 0) ∧ okBs (ix + l.length) ls
theorem ixB_length : ∀ (ls : List (List En)) (ix : Nat), (ixB ix ls).length = ls.length
  | [], _ => rfl
  | l :: ls, ix => by simp [ixB, ixB_length ls]
theorem okBs_ix {ix : Nat} {l : List En} {q : List UInt8} (h : encBF ix l = (q, 0)) : ix ≤ 18446744073709551615 ∧ ix + l.length < 18446744073709551616 ∧ 0 < l.length := by
  obtain ⟨_, h1, h2, _⟩ := encBF_ok _ _ _ h
  omega
/-- a batch's frame at a place -/
theorem oneOk_at (X T : List UInt8) (ix : Nat) (l : List En) (q : List UInt8) (h : encBF ix l = (q, 0)) : OneOk (X ++ (laid ix q ++ T)) X.length ix q l := by
  obtain ⟨h1, h2⟩ := encBF_small ix l q h
  have hn := next_laid ix q T (okBs_ix h).1 (by omega) (by omega)
  have hs := next_shift X (laid ix q ++ T)
  rw [hn] at hs
  simp only at hs
  have hd := decB_laid ix l q h
  have ho : oneOk (X ++ (laid ix q ++ T)) X.length ix := by
    unfold oneOk
    rw [hs]
    simp only
    rw [hd]
    exact ⟨by trivial, by trivial, rfl, rfl⟩
  have hb := oneOk_back _ _ _ ho
  rw [hs] at hb
  simp only at hb
  rw [hd] at hb
  exact hb
theorem readTo_run : ∀ (ls : List (List En)) (f ix : Nat) (X T : List UInt8), okBs ix ls →
    readTo (f + ls.length) (X ++ (frB ix ls ++ T)) X.length ix = ⟨ixB ix ls ++ (readTo f (X ++ (frB ix ls ++ T)) (X.length + (frB ix ls).length) (endIx ix ls)).bs, (readTo f (X ++ (frB ix ls ++ T)) (X.length + (frB ix ls).length) (endIx ix ls)).used⟩
  | [], f, ix, X, T, _ => by simp [frB, ixB, endIx]
  | l :: ls, f, ix, X, T, h => by
    obtain ⟨h1, h2⟩ := h
    have e : X ++ (frB ix (l :: ls) ++ T) = X ++ (laid ix (encBL ix l) ++ (frB (ix + l.length) ls ++ T)) := by simp [frB]
    have ho := oneOk_at X (frB (ix + l.length) ls ++ T) ix l _ h1
    have e2 : X ++ (laid ix (encBL ix l) ++ (frB (ix + l.length) ls ++ T)) = (X ++ laid ix (encBL ix l)) ++ (frB (ix + l.length) ls ++ T) := by simp
    have hl : X.length + (encBL ix l).length + 18 = (X ++ laid ix (encBL ix l)).length := by rw [List.length_append, FrameMath.laid_length]; omega
    have hl2 : X.length + (frB ix (l :: ls)).length = (X ++ laid ix (encBL ix l)).length + (frB (ix + l.length) ls).length := by simp [frB]; omega
    have ih := readTo_run ls f (ix + l.length) (X ++ laid ix (encBL ix l)) T h2
    rw [e, show f + (l :: ls).length = (f + ls.length) + 1 by simp; omega, readTo_step _ _ _ _ _ _ ho, hl, hl2, e2, ih]
    rfl
theorem head_next (h : HdV) (hk : HdOk h) (T : List UInt8) : nextF (headL h ++ T) 0 = ⟨1, h.n, headPay h, 48⟩ := by
  have hp := headPay_length h
  have := next_laid h.n (headPay h) T hk.n (by omega) (by omega)
  rw [hp] at this
  exact this
theorem readF_run (h : HdV) (hk : HdOk h) (ls : List (List En)) (T : List UInt8) (ho : okBs h.f ls) : ∃ f, readF (headL h ++ (frB h.f ls ++ T)) = ⟨h, ixB h.f ls ++ (readTo (f + 1) (headL h ++ (frB h.f ls ++ T)) (48 + (frB h.f ls).length) (endIx h.f ls)).bs, (readTo (f + 1) (headL h ++ (frB h.f ls ++ T)) (48 + (frB h.f ls).length) (endIx h.f ls)).used, 0⟩ := by
  have hn := head_next h hk (frB h.f ls ++ T)
  have hok := headOk_pay h hk
  have hv := headV_pay h hk
  have hpl := headPay_length h
  have hhl := headL_length h
  have hfl : ∀ (ls : List (List En)) (ix : Nat), ls.length ≤ (frB ix ls).length := by
    intro ls
    induction ls with
    | nil => intro ix; exact Nat.zero_le _
    | cons l ls ih =>
      intro ix
      have := ih (ix + l.length)
      simp only [frB, List.length_append, List.length_cons, FrameMath.laid_length]
      omega
  have hlen := hfl ls h.f
  refine ⟨(headL h ++ (frB h.f ls ++ T)).length - ls.length, ?_⟩
  unfold readF
  rw [hn]
  simp only
  rw [if_pos ⟨trivial, hok⟩, hpl, hv, show 30 + 18 = (headL h).length by rw [hhl]]
  have hP : ls.length ≤ (headL h ++ (frB h.f ls ++ T)).length := by simp only [List.length_append]; omega
  rw [show (headL h ++ (frB h.f ls ++ T)).length + 1 = ((headL h ++ (frB h.f ls ++ T)).length - ls.length + 1) + ls.length by omega]
  rw [readTo_run ls _ h.f (headL h) T ho, hhl]
/-- where no batch with the index follows -/
theorem readF_stop (h : HdV) (hk : HdOk h) (ls : List (List En)) (T : List UInt8) (ho : okBs h.f ls) (hT : (nextF T 0).kind ≠ 1 ∨ (nextF T 0).place ≠ endIx h.f ls) : readF (headL h ++ (frB h.f ls ++ T)) = ⟨h, ixB h.f ls, 48 + (frB h.f ls).length, 0⟩ := by
  obtain ⟨f, hf⟩ := readF_run h hk ls T ho
  have hno : ¬ oneOk (headL h ++ (frB h.f ls ++ T)) (48 + (frB h.f ls).length) (endIx h.f ls) := by
    have hs := next_shift (headL h ++ frB h.f ls) T
    rw [List.length_append, headL_length, List.append_assoc] at hs
    intro hh
    obtain ⟨h1, h2, _⟩ := hh
    rw [hs] at h1 h2
    rcases hT with hT | hT
    · exact hT h1
    · exact hT h2
  rw [hf, readTo_end _ _ _ _ hno, List.append_nil]
theorem next_nil : (nextF [] 0).kind ≠ 1 := noughts_none 0
theorem readF_all (h : HdV) (hk : HdOk h) (ls : List (List En)) (ho : okBs h.f ls) : readF (headL h ++ frB h.f ls) = ⟨h, ixB h.f ls, 48 + (frB h.f ls).length, 0⟩ := by
  have := readF_stop h hk ls [] ho (.inl next_nil)
  rw [List.append_nil] at this
  exact this
theorem readF_more (h : HdV) (hk : HdOk h) (ls : List (List En)) (T : List UInt8) (ho : okBs h.f ls) : ∃ bs used, readF (headL h ++ (frB h.f ls ++ T)) = ⟨h, ixB h.f ls ++ bs, used, 0⟩ ∧ 48 + (frB h.f ls).length ≤ used ∧ used ≤ 48 + (frB h.f ls).length + T.length := by
  obtain ⟨f, hf⟩ := readF_run h hk ls T ho
  refine ⟨_, _, hf, ?_⟩
  have := readTo_len (headL h ++ (frB h.f ls ++ T)) (f + 1) (48 + (frB h.f ls).length) (endIx h.f ls) (by simp only [List.length_append, headL_length]; omega)
  simp only [List.length_append, headL_length] at this ⊢
  omega
/-- without its whole head it is none -/
theorem readF_none (P : List UInt8) (h : (nextF P 0).kind ≠ 1) : readF P = noSeg := by
  unfold readF; rw [if_neg (fun h2 => h h2.1)]
theorem frB_append : ∀ (xs ys : List (List En)) (ix : Nat), frB ix (xs ++ ys) = frB ix xs ++ frB (endIx ix xs) ys
  | [], _, _ => rfl
  | a :: xs, ys, ix => by simp only [List.cons_append, frB, endIx, frB_append xs ys, List.append_assoc]
theorem ixB_append : ∀ (xs ys : List (List En)) (ix : Nat), ixB ix (xs ++ ys) = ixB ix xs ++ ixB (endIx ix xs) ys
  | [], _, _ => rfl
  | a :: xs, ys, ix => by simp only [List.cons_append, ixB, endIx, ixB_append xs ys]
theorem endIx_append : ∀ (xs ys : List (List En)) (ix : Nat), endIx ix (xs ++ ys) = endIx (endIx ix xs) ys
  | [], _, _ => rfl
  | a :: xs, ys, ix => by simp only [List.cons_append, endIx, endIx_append xs ys]
theorem okBs_append : ∀ (xs ys : List (List En)) (ix : Nat), okBs ix (xs ++ ys) ↔ okBs ix xs ∧ okBs (endIx ix xs) ys
  | [], _, _ => by simp [okBs, endIx]
  | a :: xs, ys, ix => by simp only [List.cons_append, okBs, endIx, okBs_append xs ys, and_assoc]
end Go.Proofs.YtpmnnnbkbcpgjaaGreatDoor
