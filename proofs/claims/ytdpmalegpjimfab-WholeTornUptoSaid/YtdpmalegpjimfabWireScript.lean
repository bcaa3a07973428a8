/- Scripts of things to lay and to take off, as arguments. -/
import Derived.Test.YtdpmalegpjimfabWireLaid
import Derived.Deep.Slices
import Derived.Deep.Fields
namespace Go.Proofs.Ytdpmalegpjimfab
open Go.RowKit

structure OpV where
  k : Int
  v : Nat
  n : Int
  A : Option Addr
  c : Nat
  P : List UInt8
structure OpOk (w : World) (o : OpV) : Prop where
  k : -9223372036854775808 ≤ o.k ∧ o.k ≤ 9223372036854775807
  v : o.v ≤ 18446744073709551615
  n : -9223372036854775808 ≤ o.n ∧ o.n ≤ 9223372036854775807
  P : RB w o.A o.c o.P
/-- a list of things as it comes in -/
structure Ops (w : World) (A : Option Addr) (l : List OpV) : Prop where
  out : ∀ i (h : i < l.length), ∃ a, A = some a ∧ w.cell? (a.add (i * 4)) = some (.int .i64 l[i].k) ∧ w.cell? (a.add (i * 4 + 1)) = some (.int .u64 l[i].v) ∧ w.cell? (a.add (i * 4 + 2)) = some (.int .i64 l[i].n) ∧ w.cell? (a.add (i * 4 + 3)) = some (.slice l[i].A l[i].P.length l[i].c)
  ok : ∀ o ∈ l, OpOk w o
theorem OpOk.new {w w' : World} {o : OpV} (h : OpOk w o) (hb : Below w.heap.size w w') : OpOk w' o := ⟨h.k, h.v, h.n, h.P.new hb⟩
theorem Ops.new {w w' : World} {A : Option Addr} {l : List OpV} (h : Ops w A l) (hb : Below w.heap.size w w') : Ops w' A l := by
  refine ⟨fun i hi => ?_, fun o ho => (h.ok o ho).new hb⟩
  obtain ⟨a, ha, h0, h1, h2, h3⟩ := h.out i hi
  have hc : ∀ j u, w.cell? (a.add j) = some u → w'.cell? (a.add j) = some u := fun j u hu => (hb.cell (World.block_lt_of_cell? w _ hu)).trans hu
  exact ⟨a, ha, hc _ _ h0, hc _ _ h1, hc _ _ h2, hc _ _ h3⟩

theorem add_next (a : Addr) (k j : Nat) (hj : 0 < j) : (⟨(a.add k).block, (a.add k).off + j, none⟩ : Addr) = a.add (k + j) := by
  unfold Addr.add
  split <;> split <;> simp_all <;> omega
theorem Ops.at_ {w : World} {A : Option Addr} {l : List OpV} (h : Ops w A l) (i : Nat) (hi : i < l.length) : ∃ a o, A = some a ∧ l[i]? = some o ∧ o ∈ l ∧ OpOk w o ∧ w.cell? (a.add (i * 4)) = some (.int .i64 o.k) ∧ w.cell? ⟨(a.add (i * 4)).block, (a.add (i * 4)).off + 1, none⟩ = some (.int .u64 o.v) ∧ w.cell? ⟨(a.add (i * 4)).block, (a.add (i * 4)).off + 2, none⟩ = some (.int .i64 o.n) ∧ w.cell? ⟨(a.add (i * 4)).block, (a.add (i * 4)).off + 3, none⟩ = some (.slice o.A o.P.length o.c) := by
  obtain ⟨a, ha, h0, h1, h2, h3⟩ := h.out i hi
  refine ⟨a, l[i], ha, List.getElem?_eq_getElem hi, List.getElem_mem hi, h.ok _ (List.getElem_mem hi), h0, ?_, ?_, ?_⟩
  · rw [add_next _ _ _ (by decide)]; exact h1
  · rw [add_next _ _ _ (by decide)]; exact h2
  · rw [add_next _ _ _ (by decide)]; exact h3

/-- what a script lays -/
def laidAll (l : List OpV) : List UInt8 := l.flatMap fun o => laidL o.k o.v o.P
def bulkOps (l : List OpV) : Nat := (l.map fun o => o.P.length + 5).sum
theorem laidAll_snoc (l : List OpV) (i : Nat) (o : OpV) (h : l[i]? = some o) : laidAll (l.take (i + 1)) = laidAll (l.take i) ++ laidL o.k o.v o.P := by
  obtain ⟨hi, rfl⟩ := List.getElem?_eq_some_iff.1 h
  unfold laidAll
  rw [List.take_succ_eq_append_getElem hi, List.flatMap_append, List.flatMap_cons, List.flatMap_nil, List.append_nil]
theorem bulk_take (l : List OpV) (i : Nat) : bulkOps (l.take i) ≤ bulkOps l := by
  have h := congrArg bulkOps (List.take_append_drop i l)
  simp only [bulkOps, List.map_append, List.sum_append] at h ⊢
  omega
theorem laidAll_le (l : List OpV) : (laidAll l).length ≤ 2 * bulkOps l := by
  induction l with
  | nil => simp [laidAll]
  | cons o l ih =>
    have := laidL_length o.k o.v o.P
    simp only [laidAll, bulkOps, List.flatMap_cons, List.length_append, List.map_cons, List.sum_cons] at ih ⊢
    omega
theorem bulk_mem {l : List OpV} {o : OpV} (h : o ∈ l) : o.P.length + 5 ≤ bulkOps l := by
  induction l with
  | nil => simp at h
  | cons x l ih =>
    simp only [bulkOps, List.map_cons, List.sum_cons]
    rcases List.mem_cons.1 h with rfl | h
    · omega
    · have := ih h
      simp only [bulkOps] at this
      omega
theorem bulk_len (l : List OpV) : l.length ≤ bulkOps l := by
  induction l with
  | nil => simp
  | cons x l ih => simp only [bulkOps, List.map_cons, List.sum_cons, List.length_cons] at ih ⊢; omega

set_option maxRecDepth 100000 in
theorem written_calls (A : Option Addr) (l : List OpV) (n c N : Nat) (w : World) (h : Ops w A l) (hn : n = l.length) (hs : bulkOps l ≤ 1048576) (hN : N = (laidAll l).length) :
    Calls Try.prog 41 #[.slice A n c] w fun e w' => ∃ A' c', e = .returned (.slice A' N c') ∧ NewB w w' (.slice A' N c') (laidAll l) := by
  subst hn
  subst hN
  have hlen := Nat.le_trans (bulk_len l) hs
  have htot := laidAll_le l
  have HFr := Lib.hid (WrF.fresh w w.heap.size rfl 53)
  go_enter Try.func41, Try.ntmps41
  go_wp2
  go_loopw [8] (fun i wr => ∃ (j : Nat) (F : Nat → Prop), j ≤ l.length ∧ i = .int .i64 j ∧ WrF wr F w.heap.size (laidAll (l.take j)) ∧ (∀ k, F k → w.heap.size ≤ k) ∧ Below w.heap.size w wr) (fun i _ => l.length - (intOf i).toNat)
  case atStart => exact ⟨0, _, Nat.zero_le _, rfl, HFr.out, fun k hk => by omega, (Below.refl _ _).alloc (Nat.le_refl _) _⟩
  case round =>
    obtain ⟨j, F, hj, rfl, HW, HF, HB⟩ := hrel
    by_cases hlt : j < l.length
    · obtain ⟨a, o, rfl, ho, hmem, hok, h0, h1, h2, h3⟩ := (h.new HB).at_ j hlt
      have HE := Lib.hid (laidAll_snoc l j o ho).symm
      have hb1 := bulk_take l j
      have hb2 := laidAll_le (l.take j)
      have hb3 := bulk_mem hmem
      have HL : Hid ((laidAll (l.take j)).length + o.P.length + 10 ≤ 140737488355328) := Lib.hid (by omega)
      have HX := Lib.hid (below_alloc1 (Below.refl wr.heap.size wr) (Nat.le_refl _) (.cells #[.int .i64 o.k, .int .u64 o.v, .int .i64 o.n, .slice o.A o.P.length o.c] 60))
      have HFree : Hid (Free F o.A o.P) := Lib.hid (Free.of_old (h.ok o hmem).P.old HF)
      clear hb1 hb2 hb3 ho htot
      go_wp2_with (go_at_call 28; (with_reducible refine (wlay_calls (HW.new HX.out) o.k o.v o.n o.A o.P o.P.length o.c _ HE.out rfl hok.v (hok.P.new HX.out) HFree.out HL.out).mono ?_); rintro e1 w1 ⟨F1, rfl, hw1, hs1⟩)
      go_roundw
      case rel => exact ⟨j + 1, F1, by omega, by go_num, hw1, hs1.lo HF (Nat.le_trans HB.size HX.out.size), (below_then HB HX.out).trans (hs1.below (Nat.le_trans HB.size HX.out.size) HF)⟩
      case measure => simp [intOf]; omega
    · obtain rfl : j = l.length := by omega
      rw [List.take_length] at HW
      have HL : Hid ((laidAll l).length ≤ 140737488355328) := Lib.hid (by omega)
      clear hlt htot
      go_wp2_with (go_at_call 27; (with_reducible refine (bytesF HW _ rfl HL.out).mono ?_); rintro e1 w1 ⟨A1, c1, rfl, hn1⟩)
      go_ret
      exact ⟨A1, c1, rfl, hn1.own.mono HB.size, below_then HB hn1.below⟩
/-- a script of one thing, as a literal lays it -/
theorem Ops.one (w : World) (o : OpV) (ho : OpOk w o) (t : TypeId) : Ops (w.alloc (.cells #[.int .i64 o.k, .int .u64 o.v, .int .i64 o.n, .slice o.A o.P.length o.c] t)) (some ⟨w.heap.size, 0, none⟩) [o] := by
  refine ⟨fun i hi => ?_, fun x hx => ?_⟩
  · obtain rfl : i = 0 := by simpa using hi
    have q := Quad.fresh w w.heap.size rfl (.int .i64 o.k) (.int .u64 o.v) (.int .i64 o.n) (.slice o.A o.P.length o.c) t
    exact ⟨_, rfl, q.c0, q.c1, q.c2, q.c3⟩
  · obtain rfl : x = o := by simpa using hx
    exact ho.new (below_alloc1 (Below.refl _ _) (Nat.le_refl _) _)
theorem laidAll_one (o : OpV) : laidAll [o] = laidL o.k o.v o.P := by simp [laidAll]
end Go.Proofs.Ytdpmalegpjimfab
