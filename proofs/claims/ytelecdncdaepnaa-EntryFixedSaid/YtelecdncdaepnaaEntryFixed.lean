/- The walk of notarylaw05.EntryFixed. -/
import Derived.Test.YtelecdncdaepnaaEntryMore
import Derived.Test.YtelecdncdaepnaaEncBatch
import Derived.Test.YtelecdncdaepnaaWireCut
import Derived.Deep.RegionLaw
import Derived.Deep.RegionHeld3
import Derived.Deep.DrawnRows
namespace Go.Proofs.Ytelecdncdaepnaa
open Go.RowKit
open WireMath (numS beN rawS blobS uvarS grpL uvarL wideL)

section
variable {P : Program} {t e : TypeId} {w : World} {ops : Array Oper} {o : Oper} {a : Act} {Q : Exit → Act → World → Prop}
/-- make([]byte, n), as one step of a region that draws -/
theorem step_makeB {K : Act → World → Prop} {E : Prop} (bt : ByteT P t e) (hg : o.guard = none) (l c : Operand) (hop : o.op = Op.makeSlice t l c) (kl kc : IntKind) (L C : Int) (n : Nat) (hl : a.eval l = .int kl L) (hc : a.eval c = .int kc C) (hL : L = n) (hC : C = n) (hn : n ≤ 281474976710656) (base : Nat) (hbase : base ≤ w.heap.size)
    (h : ∀ w', OB w' base e (.slice (some ⟨w.heap.size, 0, none⟩) n n) (List.replicate n 0) → Below w.heap.size w w' → w'.heap.size = w'.heap.size → K (a.put o.dst (.slice (some ⟨w.heap.size, 0, none⟩) n n)) w') :
    if Region.wanted o (yielded ops a.tmps) = true then Oper.wp P o a w K Q else E := by
  have hw : Region.wanted o (yielded ops a.tmps) = true := by simp [Region.wanted, hg]
  rw [if_pos hw]
  obtain ⟨i, hi, hz, hs, hb⟩ := info_parts bt.info
  obtain ⟨w', hrun, r1, r2⟩ := run_make_full (P := P) w base t e i (.int .u8 0) 1 bt.sl hi hz hs kl kc n (by rw [hb]; omega) (by unfold maxLen; omega) hbase
  subst hL
  subst hC
  unfold Oper.wp
  simp [execOp, hop, hl, hc, hrun, Result.andThen]
  refine h w' ⟨?_⟩ ⟨r2.os, r2.tape, r2.output, r2.size, fun k hk => r2.block k hk (by simp)⟩ rfl
  have e1 : (madeCells (Value.int .u8 0).cells (n * 1)).toList = encB (List.replicate n 0) := by
    rw [Nat.mul_one]
    apply List.ext_getElem
    · simp [madeCells, encB]
    · intro j h1 h2
      simp [madeCells, encB, Value.cells, uB, Nat.mod_one]
  rw [e1] at r1
  simpa using r1
end
/-- the cells of many: c laid i times, the rest noughts -/
def manyL (c z : List Value) (i n : Nat) : List Value := (List.replicate i c).flatten ++ (List.replicate (n - i) z).flatten
theorem flat_len (c : List Value) (n : Nat) : (List.replicate n c).flatten.length = n * c.length := by
  induction n with
  | zero => simp
  | succ k ih => rw [List.replicate_succ, List.flatten_cons, List.length_append, ih]; rw [Nat.succ_mul, Nat.add_comm]
theorem flat_snoc (c : List Value) (n : Nat) : (List.replicate (n + 1) c).flatten = (List.replicate n c).flatten ++ c := by
  rw [List.replicate_succ', List.flatten_append]; simp
theorem set_three (A B : List Value) (a b c x y z : Value) (k : Nat) (hk : k = A.length) : (((A ++ (a :: b :: c :: B)).set k x).set (k + 1) y).set (k + 2) z = A ++ (x :: y :: z :: B) := by
  subst hk
  rw [List.set_append_right _ _ (by omega), List.set_append_right _ _ (by omega), List.set_append_right _ _ (by omega)]
  simp
theorem many_step (x y z a b c : Value) (i n : Nat) (hi : i < n) : (((manyL [x, y, z] [a, b, c] i n).set (i * 3) x).set (i * 3 + 1) y).set (i * 3 + 2) z = manyL [x, y, z] [a, b, c] (i + 1) n := by
  unfold manyL
  obtain ⟨m, hm⟩ : ∃ m, n - i = m + 1 := ⟨n - i - 1, by omega⟩
  rw [hm, show n - (i + 1) = m by omega, List.replicate_succ, List.flatten_cons]
  have := set_three (List.replicate i [x, y, z]).flatten (List.replicate m [a, b, c]).flatten a b c x y z (i * 3) (by rw [flat_len]; rfl)
  rw [show [a, b, c] ++ (List.replicate m [a, b, c]).flatten = a :: b :: c :: (List.replicate m [a, b, c]).flatten from rfl, this, flat_snoc, List.append_assoc]
  rfl
theorem many_cell (x y z a b c : Value) (i n : Nat) (hi : i < n) : (manyL [x, y, z] [a, b, c] i n)[i * 3]? = some a ∧ (manyL [x, y, z] [a, b, c] i n)[i * 3 + 1]? = some b ∧ (manyL [x, y, z] [a, b, c] i n)[i * 3 + 2]? = some c := by
  unfold manyL
  obtain ⟨m, hm⟩ : ∃ m, n - i = m + 1 := ⟨n - i - 1, by omega⟩
  rw [hm, List.replicate_succ, List.flatten_cons]
  have hl : (List.replicate i [x, y, z]).flatten.length = i * 3 := by rw [flat_len]; rfl
  refine ⟨?_, ?_, ?_⟩ <;> rw [List.getElem?_append_right (by omega), hl]
  · rw [Nat.sub_self]; rfl
  · rw [show i * 3 + 1 - i * 3 = 1 by omega]; rfl
  · rw [show i * 3 + 2 - i * 3 = 2 by omega]; rfl
theorem many_all (x : EnX) (z : List Value) (n : Nat) : manyL (cellsE x) z n n = (List.replicate n x).flatMap cellsE := by
  unfold manyL
  rw [Nat.sub_self, List.replicate_zero, List.flatten_nil, List.append_nil]
  induction n with
  | zero => rfl
  | succ k ih => rw [List.replicate_succ, List.flatten_cons, List.replicate_succ, List.flatMap_cons, ih]
theorem cell_newF {w w' : World} {a : Addr} {v : Value} (hb : Below w.heap.size w w') (h : w.cell? a = some v) : w'.cell? a = some v := (hb.cell (World.block_lt_of_cell? w _ h)).trans h
def zs (n : Nat) : List UInt8 := List.replicate n 0
def es9 (gk gv : Nat) : List EnX := [(⟨1, zs 64, zs 256⟩, ⟨some ⟨gk, 0, none⟩, 65, some ⟨gv, 0, none⟩, 257⟩), (⟨1, zs 65, []⟩, ⟨some ⟨gk, 0, none⟩, 65, none, 0⟩), (⟨1, [], zs 257⟩, ⟨none, 0, some ⟨gv, 0, none⟩, 257⟩), (⟨3, zs 65, []⟩, ⟨some ⟨gk, 0, none⟩, 65, none, 0⟩), (⟨0, [], []⟩, ⟨none, 0, none, 0⟩), (⟨2, zs 64, []⟩, ⟨some ⟨gk, 0, none⟩, 65, none, 0⟩), (⟨2, [], zs 1⟩, ⟨none, 0, some ⟨gv, 0, none⟩, 257⟩), (⟨2, [], zs 257⟩, ⟨none, 0, some ⟨gv, 0, none⟩, 257⟩), (⟨1, [], []⟩, ⟨none, 0, none, 0⟩)]
def x0F (gk gv : Nat) : EnX := (⟨1, zs 64, zs 256⟩, ⟨some ⟨gk, 0, none⟩, 65, some ⟨gv, 0, none⟩, 257⟩)
def errs9 : List Nat := [0, 2, 2, 2, 3, 0, 3, 2, 0]
theorem errs9_eq (gk gv : Nat) : (es9 gk gv).map (fun x => chkF x.1) = errs9 := by kernel_rfl
theorem zs_length (n : Nat) : (zs n).length = n := List.length_replicate
theorem zs_take (n m : Nat) (h : m ≤ n) : (zs n).take m = zs m := by unfold zs; rw [List.take_replicate, Nat.min_eq_left h]
theorem Ents.void0 (w : World) : Ents w none [] := ⟨fun i hi => absurd hi (by simp), fun x hx => absurd hx (by simp)⟩
theorem Ents.take {w : World} {A : Option Addr} (m n : Nat) (x : EnX) (h : Ents w A (List.replicate n x)) (hm : m ≤ n) : Ents w A (List.replicate m x) := by
  refine ⟨fun i hi => ?_, fun y hy => h.ok y (by rw [List.mem_replicate] at hy ⊢; exact ⟨by omega, hy.2⟩)⟩
  have hi2 : i < (List.replicate n x).length := by rw [List.length_replicate] at hi ⊢; omega
  obtain ⟨a, h1, h2, h3, h4⟩ := h.out i hi2
  rw [List.getElem_replicate] at h2 h3 h4 ⊢
  exact ⟨a, h1, h2, h3, h4⟩
def e0F : En := ⟨1, zs 64, zs 256⟩
theorem ens_rep (n gk gv : Nat) : ensOf (List.replicate n (x0F gk gv)) = List.replicate n e0F := by unfold ensOf; rw [List.map_replicate]; rfl
theorem enc64_len : (encBL 18446744073709551551 (List.replicate 64 e0F)).length = 20747 := by kernel_rfl
theorem enc64_ok : encBF 18446744073709551551 (List.replicate 64 e0F) = (encBL 18446744073709551551 (List.replicate 64 e0F), 0) := by
  unfold encBF
  rw [if_pos (by kernel_rfl)]
theorem enc64_bad : encBF 18446744073709551552 (List.replicate 64 e0F) = ([], 3) := by kernel_rfl
theorem enc65_bad : encBF 0 (List.replicate 65 e0F) = ([], 2) := by kernel_rfl
theorem enc0_bad : encBF 0 [] = ([], 3) := by kernel_rfl
theorem enc2_bad : encBF 0 [⟨0, [], []⟩, ⟨1, zs 65, []⟩] = ([], 2) := by kernel_rfl
theorem encB64 (A : Option Addr) (gk gv c : Nat) (w : World) (h : Ents w A (List.replicate 64 (x0F gk gv))) :
    Calls Try.prog 16 #[.agg #[.int .u64 18446744073709551551, .slice A 64 c]] w fun r w' => ∃ A' c', r = .returned (.tuple #[.slice A' 20747 c', .int .i64 0]) ∧ Below w.heap.size w w' := by
  have h1 := encB_calls 18446744073709551551 18446744073709551551 rfl (by omega) A 64 c _ w h (by rw [List.length_replicate]) (by omega) _ 0 (by rw [ens_rep]; exact enc64_ok)
  rw [enc64_len] at h1
  exact h1.mono fun _ _ ⟨A', c', h2, h3⟩ => ⟨A', c', h2, h3.below⟩
theorem encBadF (f : Nat) (V : Int) (hV : V = f) (hf : f ≤ 18446744073709551615) (A : Option Addr) (n c : Nat) (es : List EnX) (l : List En) (w : World) (h : Ents w A es) (he : ensOf es = l) (hn : n = es.length) (hl : n ≤ 65) (e : Nat) (E : Int) (hE : E = e) (hq : encBF f l = ([], e)) :
    Calls Try.prog 16 #[.agg #[.int .u64 V, .slice A n c]] w fun r w' => ∃ A' c', r = .returned (.tuple #[.slice A' 0 c', .int .i64 E]) ∧ Below w.heap.size w w' := by
  subst hE he
  exact (encB_calls f V hV hf A n c es w h hn (by omega) [] e hq).mono fun _ _ ⟨A', c', h2, h3⟩ => ⟨A', c', h2, h3.below⟩
theorem decB_065 : decB [0, 65] = ⟨2, 0, []⟩ := by kernel_rfl
theorem decB_000 : decB [0, 0] = ⟨3, 0, []⟩ := by kernel_rfl
theorem decF_165 : decF [1, 65] = (2, ⟨0, [], []⟩) := by kernel_rfl
theorem decF_365 : decF [3, 65] = (3, ⟨0, [], []⟩) := by kernel_rfl
theorem encR_33 : encR 33 zeroR = ([], 1) := by kernel_rfl
def r01 : Rt := ⟨0, zeroD, [0, 1] ++ List.replicate 30 0⟩
theorem r01_ok : RtOk r01 := ⟨by show 0 ≤ _; omega, rfl, rfl⟩
theorem encR_01 : encR 1 r01 = ([], 3) := by kernel_rfl
theorem decR_0 : decR 0 [] = (1, zeroR) := by kernel_rfl
theorem decR_11 : decR 1 (List.replicate 11 0) = (3, zeroR) := by kernel_rfl
theorem encRootF (n : Int) (r : Rt) (h : RtOk r) (e : Nat) (hq : encR n r = ([], e)) (w : World) (C : Array Value) (hC : C = (rtL r).toArray) :
    Calls Try.prog 33 #[.int .i64 n, .agg C] w fun x w' => ∃ A' c', x = .returned (.tuple #[.slice A' 0 c', .int .i64 e]) ∧ Below w.heap.size w w' :=
  (encodeRootN2 n r h w [] e hq C hC).mono fun _ _ ⟨A', c', h1, h2⟩ => ⟨A', c', h1, h2.below⟩
theorem decB2F (A : Option Addr) (c : Nat) (P : List UInt8) (e : Nat) (w : World) (hp : RB w A c P) (hl : P.length = 2) (ht : decB P = ⟨e, 0, []⟩) :
    Calls Try.prog 21 #[.slice A 2 c] w fun r w' => ∃ A' c', r = .returned (.tuple #[.agg #[.int .u64 (0 : Nat), .slice A' 0 c'], .int .i64 e]) ∧ Below w.heap.size w w' :=
  (decBN2 A P 2 c w hp hl.symm (by omega) e 0 [] ht).mono fun _ _ ⟨A', c', h1, h2⟩ => ⟨A', c', h1, h2.below⟩
theorem dec2F (A : Option Addr) (c : Nat) (P : List UInt8) (e : Nat) (w : World) (hp : RB w A c P) (hl : P.length = 2) (ht : decF P = (e, ⟨0, [], []⟩)) :
    Calls Try.prog 24 #[.slice A 2 c] w fun r w' => ∃ a : EnA, r = .returned (.tuple #[.agg #[.int .u8 (0 : Nat), .slice a.KA 0 a.kc, .slice a.VA 0 a.vc], .int .i64 e]) ∧ Below w.heap.size w w' :=
  (decEN2 A P 2 c w hp hl.symm (by omega) e ⟨0, [], []⟩ ht).mono fun _ _ ⟨a, h1, h2⟩ => ⟨a, h1, h2.below⟩
theorem es9_ok (w : World) (gk gv : Nat) (hk : RB w (some ⟨gk, 0, none⟩) 65 (zs 65)) (hv : RB w (some ⟨gv, 0, none⟩) 257 (zs 257)) : ∀ x ∈ es9 gk gv, EnOk w x.1 x.2 := by
  have k64 : RB w (some ⟨gk, 0, none⟩) 65 (zs 64) := by have := hk.take 64; rwa [zs_take 65 64 (by omega)] at this
  have v256 : RB w (some ⟨gv, 0, none⟩) 257 (zs 256) := by have := hv.take 256; rwa [zs_take 257 256 (by omega)] at this
  have v1 : RB w (some ⟨gv, 0, none⟩) 257 (zs 1) := by have := hv.take 1; rwa [zs_take 257 1 (by omega)] at this
  have n0 := RB.void w
  intro x hx
  simp only [es9, List.mem_cons, List.not_mem_nil, or_false] at hx
  rcases hx with rfl | rfl | rfl | rfl | rfl | rfl | rfl | rfl | rfl
  · exact ⟨by show 1 ≤ 255; omega, k64, v256⟩
  · exact ⟨by show 1 ≤ 255; omega, hk, n0⟩
  · exact ⟨by show 1 ≤ 255; omega, n0, hv⟩
  · exact ⟨by show 3 ≤ 255; omega, hk, n0⟩
  · exact ⟨by show 0 ≤ 255; omega, n0, n0⟩
  · exact ⟨by show 2 ≤ 255; omega, k64, n0⟩
  · exact ⟨by show 2 ≤ 255; omega, n0, v1⟩
  · exact ⟨by show 2 ≤ 255; omega, n0, hv⟩
  · exact ⟨by show 1 ≤ 255; omega, n0, n0⟩
theorem Ents.of_row {w : World} {g : Nat} {T : TypeId} {es : List EnX} (h : Row w g T (es.flatMap cellsE)) (hok : ∀ x ∈ es, EnOk w x.1 x.2) : Ents w (some ⟨g, 0, none⟩) es := by
  refine ⟨fun i hi => ?_, hok⟩
  obtain ⟨c0, c1, c2⟩ := cellsE_get es i es[i] (List.getElem?_eq_getElem hi)
  exact ⟨⟨g, 0, none⟩, rfl, by rw [addr_at, h.cell, Nat.zero_add]; exact c0, by rw [addr_at, h.cell, Nat.zero_add]; exact c1, by rw [addr_at, h.cell, Nat.zero_add]; exact c2⟩
set_option maxHeartbeats 8000000 in
set_option maxRecDepth 100000 in
theorem entryFixed_calls (w : World) : Calls Try.prog 11 #[] w fun e w' => e = .returned (.bool true) ∧ Below w.heap.size w w' := by
  go_enter Try.func11, Try.ntmps11
  go_wp2_with (first
    | (go_at_call 13; (with_reducible refine (awake5_calls _).mono ?_); rintro r0 w0 ⟨rfl, hb0⟩; have B0 := Lib.hid hb0.drew))
  rename_i Q0 K0 hK0
  have REST : ∀ (gk gv : Nat) (w2 : World), RB w2 (some ⟨gk, 0, none⟩) 65 (zs 65) → RB w2 (some ⟨gv, 0, none⟩) 257 (zs 257) → Below w.heap.size w w2 → Exit.then K0 Q0 Exit.normal { tmps := #[.bool false, .slice (some ⟨gk, 0, none⟩) 65 65, .slice (some ⟨gv, 0, none⟩) 257 257, undef, undef, undef, undef, undef, undef, undef, undef, undef, undef, undef, undef, undef, undef, .bool true, .bool false, .bool false, .bool false, .bool false, .bool false, .bool false, .bool false, .bool false, .bool false, .bool false, .bool false, .bool false, .bool false, .slice (some ⟨gk, 0, none⟩) 65 65, .slice (some ⟨gv, 0, none⟩) 257 257, undef, undef, undef, undef, undef, undef, undef, undef, undef, undef, undef, undef, undef, undef, undef, undef, undef, undef, undef, undef, undef, undef, undef, undef, undef, undef, undef, undef, undef, undef, undef, undef, undef, undef, undef, undef, undef, undef, undef, undef, undef, undef, undef, undef, undef, undef, undef, undef, undef, undef, undef, undef, undef, undef, undef, undef, undef, undef, undef, undef, undef, undef, undef, undef, undef, undef, undef, undef, undef, undef, undef, undef, undef, undef, undef, undef, undef, undef, undef, undef, undef, undef, undef, undef, undef, undef, undef, undef, undef, undef, undef, undef, undef, undef, undef, undef, undef, undef, undef, undef, undef, undef, undef, undef, undef, undef, undef, undef, undef, undef, undef, undef, undef, undef, undef, undef, undef, undef, undef, undef, undef, undef, undef, undef, undef, undef, undef, undef, undef, undef, undef, undef, undef, undef, undef, undef, undef, undef, undef, undef, undef, undef, undef, undef, undef, undef, undef, undef, undef, undef, undef, undef, undef, undef, undef, undef, undef, undef, undef, undef, undef, undef, undef, undef, undef, undef, undef, undef, undef, undef, undef, undef, undef, undef, undef], defers := [] } w2 := by
    intro gk gv w2 K2 V2 B2
    clear B0
    go_wp2
    have hc1 := fun w' : World => run_cut_h w' (some ⟨gk, 0, none⟩) 65 65 64 64 rfl (by omega)
    have hc2 := fun w' : World => run_cut_h w' (some ⟨gv, 0, none⟩) 257 257 256 256 rfl (by omega)
    have hc3 := fun w' : World => run_cut_h w' (some ⟨gv, 0, none⟩) 257 257 1 1 rfl (by omega)
    refine wp_region_noPanic ?_
    go_region
    all_goals refine NoPanic.normal ?_
    obtain ⟨w4, hw4⟩ : ∃ w4 : World, w4 = ((w2.alloc (.cells ((es9 gk gv).flatMap cellsE).toArray 26)).drew).alloc (.cells (errs9.map fun n : Nat => Value.int .i64 (n : Int)).toArray 35) := ⟨_, rfl⟩
    have HK4 := Lib.hid (show RB w4 (some ⟨gk, 0, none⟩) 65 (zs 65) by rw [hw4]; exact ((K2.alloc _).drewE).alloc _)
    have HV4 := Lib.hid (show RB w4 (some ⟨gv, 0, none⟩) 257 (zs 257) by rw [hw4]; exact ((V2.alloc _).drewE).alloc _)
    have HE4 := Lib.hid (show Ents w4 (some ⟨w2.heap.size, 0, none⟩) (es9 gk gv) from Ents.of_row (by rw [hw4]; exact (Row.fresh w2 w2.heap.size rfl _ _ _ rfl).drew.alloc _) (es9_ok w4 gk gv HK4.out HV4.out))
    have HW4 := Lib.hid (show Row w4 (w2.heap.size + 1) 35 (errs9.map fun n : Nat => Value.int .i64 (n : Int)) by rw [hw4]; exact Row.fresh (w2.alloc _).drew (w2.heap.size + 1) (szA _ _).symm _ _ _ rfl)
    have HB4 := Lib.hid (show Below w.heap.size w w4 by rw [hw4]; exact belowA ((belowA B2 _).drew) _)
    have HZ4 := Lib.hid hw4
    clear hw4 hc1 hc2 hc3 K2 V2 B2
    go_wp2
    generalize ha3 : (⟨w2.heap.size, 0, none⟩ : Addr) = a3 at *
    generalize ha4 : (⟨w2.heap.size + 1, 0, none⟩ : Addr) = a4 at *
    have hwant : ∀ (w' : World), Below w4.heap.size w4 w' → ∀ j, (h : j < 9) → w'.cell? (a4.add j) = some (.int .i64 ((chkF ((es9 gk gv)[j]'(by exact h)).1 : Nat) : Int)) := by
      intro w' hb j hj
      have h1 := (HW4.out.new hb).cell j
      rw [← ha4, addr_at, Nat.zero_add, h1, List.getElem?_map, ← errs9_eq gk gv, List.getElem?_map, List.getElem?_eq_getElem (show j < (es9 gk gv).length from hj)]
      rfl
    have HWW := Lib.hid hwant
    clear hwant ha4
    go_loopw [5, 6, 58] (fun _ _ iv wr => ∃ j : Nat, j ≤ 9 ∧ iv = .int .i64 j ∧ Below w4.heap.size w4 wr) (fun _ _ iv _ => 9 - (intOf iv).toNat)
    case atStart => exact ⟨0, Nat.zero_le _, rfl, by rw [HZ4.out]; exact Below.refl _ _⟩
    case round =>
      obtain ⟨j, hj, rfl, HBI⟩ := hrel
      by_cases hlt : j < 9
      · obtain ⟨a, o, x, ea, ho, hmem, hok, k0, k1, k2⟩ := (HE4.out.new HBI).at_ j hlt
        obtain rfl := Option.some.inj ea
        have hw0 := HWW.out wr HBI j hlt
        have hoj : (es9 gk gv)[j]'(by exact hlt) = (o, x) := by
          have := List.getElem?_eq_getElem (l := es9 gk gv) (i := j) hlt
          rw [ho] at this; exact (Option.some.inj this).symm
        rw [hoj] at hw0
        simp only at hw0
        obtain ⟨C, hC⟩ : ∃ C : Int, ((chkF o : Nat) : Int) = C := ⟨_, rfl⟩
        rw [hC] at hw0
        have HC := Lib.hid hC
        have hCC : (C != C) = false := by simp
        have hj9 : (0 : Int) ≤ (j : Int) := by omega
        have hj10 : (j : Int) < 9 := by omega
        clear ho hoj hC
        have EX := Lib.hid (Trio.fresh wr wr.heap.size rfl (.int .u8 o.k) (.slice x.KA o.K.length x.kc) (.slice x.VA o.V.length x.vc) 26)
        have nbX := Lib.hid (below_alloc1 (Below.refl wr.heap.size wr) (Nat.le_refl _) (.cells #[.int .u8 o.k, .slice x.KA o.K.length x.kc, .slice x.VA o.V.length x.vc] 26))
        have x0 := EX.out.c0
        have x1 := EX.out.c1
        have x2 := EX.out.c2
        have hwX := cell_newF nbX.out hw0
        go_wp2
        go_region_held3 (fun w' => w'.cell? ⟨wr.heap.size, 0, none⟩ = some (.int .u8 o.k) ∧ w'.cell? ⟨wr.heap.size, 1, none⟩ = some (.slice x.KA o.K.length x.kc) ∧ w'.cell? ⟨wr.heap.size, 2, none⟩ = some (.slice x.VA o.V.length x.vc) ∧ w'.cell? (a4.add j) = some (.int .i64 C)) (go_keep) (first
          | (go_at_call 37; (with_reducible refine (checkN o x.KA x.VA _ _ x.kc x.vc _ rfl rfl C HC.out).mono ?_); rintro r5 w5 ⟨rfl, hb5⟩; have E5 := EX.out.drew.new hb5; have y0 := E5.c0; have y1 := E5.c1; have y2 := E5.c2; have hw5 := cell_newF ((below_drew _ _).trans hb5) hwX; have B5 := Lib.hid (below_then (belowA HBI (.cells #[.int .u8 o.k, .slice x.KA o.K.length x.kc, .slice x.VA o.V.length x.vc] 26)).drew hb5)))
        all_goals
          go_wp2
          go_roundw
          case rel => exact ⟨j + 1, by omega, by go_num, B5.out⟩
          case measure => simp [intOf]; omega
      · obtain rfl : j = 9 := by omega
        clear hlt
        obtain ⟨a, o, x, ea, ho, _, _, k0, k1, k2⟩ := (HE4.out.new HBI).at_ 0 (show 0 < 9 by omega)
        obtain rfl := Option.some.inj ea
        obtain ⟨rfl, rfl⟩ : o = ⟨1, zs 64, zs 256⟩ ∧ x = ⟨some ⟨gk, 0, none⟩, 65, some ⟨gv, 0, none⟩, 257⟩ := by
          have := Option.some.inj ho
          exact ⟨(congrArg Prod.fst this).symm, (congrArg Prod.snd this).symm⟩
        rw [Nat.zero_mul, Addr.add_zero'] at k0 k1 k2
        simp only [zs_length] at k1 k2
        clear ho ea
        have HR := Lib.hid HBI
        obtain ⟨inf, hinf⟩ : ∃ i, Try.prog.info? 26 = some i := ⟨_, rfl⟩
        have hz3 : inf.zero = some (.agg #[.int .u8 0, .slice none 0 0, .slice none 0 0]) ∧ inf.size = 3 ∧ inf.bytes = 56 := by
          have h1 : (Try.prog.info? 26).map (fun i => (i.zero, i.size, i.bytes)) = some (some (.agg #[.int .u8 0, .slice none 0 0, .slice none 0 0]), 3, 56) := by kernel_rfl
          rw [hinf] at h1
          simp only [Option.map_some, Option.some.injEq, Prod.mk.injEq] at h1
          exact h1
        go_wp2_with (refine wpList_make_full wr rfl _ _ 22 rfl wr.heap.size 26 inf _ 3 Try.underlying22 hinf hz3.1 hz3.2.1 .i64 .i64 65 65 65 rfl rfl rfl rfl (by rw [hz3.2.2]; omega) (by unfold maxLen; omega) (Nat.le_refl _) fun w5 h5 hg5 => ?_)
        obtain ⟨wo, hwo⟩ : ∃ wo : World, wo = wr := ⟨_, rfl⟩
        subst hwo
        have R5 : Row w5 wo.heap.size 26 (manyL [.int .u8 1, .slice (some ⟨gk, 0, none⟩) 64 65, .slice (some ⟨gv, 0, none⟩) 256 257] [.int .u8 0, .slice none 0 0, .slice none 0 0] 0 65) := by
          rcases h5.2 with ⟨h0, _⟩ | ⟨g', cap', cur, hv, hbg, hh, hn', hc', hs', ht'⟩
          · exact absurd h0 (by simp)
          · obtain ⟨rfl, rfl⟩ : g' = wo.heap.size ∧ cap' = 65 := by simp at hv; exact ⟨hv.1.symm, hv.2.symm⟩
            refine ⟨?_⟩
            rw [hh]
            congr 2
            rw [List.take_of_length_le (by rw [Array.length_toList, hs']; omega)] at ht'
            rw [← Array.toList_inj, ht']
            kernel_rfl
        have B5 : Below wo.heap.size wo w5 := ⟨hg5.os, hg5.tape, hg5.output, hg5.size, fun k hk => hg5.block k hk (by simp)⟩
        clear h5 hg5 hz3 hinf
        clear inf
        go_loopw [8] (fun iv wq => ∃ i : Nat, i ≤ 65 ∧ iv = .int .i64 i ∧ Row wq wo.heap.size 26 (manyL [.int .u8 1, .slice (some ⟨gk, 0, none⟩) 64 65, .slice (some ⟨gv, 0, none⟩) 256 257] [.int .u8 0, .slice none 0 0, .slice none 0 0] i 65) ∧ Below wo.heap.size wo wq) (fun iv _ => 65 - (intOf iv).toNat)
        case atStart => exact ⟨0, Nat.zero_le _, rfl, R5, B5⟩
        case round =>
          obtain ⟨i, hi, rfl, RI, BI⟩ := hrel
          by_cases hlt : i < 65
          · have c0 := cell_newF BI k0
            have c1 := cell_newF BI k1
            have c2 := cell_newF BI k2
            obtain ⟨m0, m1, m2⟩ := many_cell (.int .u8 1) (.slice (some ⟨gk, 0, none⟩) 64 65) (.slice (some ⟨gv, 0, none⟩) 256 257) (.int .u8 0) (.slice none 0 0) (.slice none 0 0) i 65 hlt
            have d0 := (RI.cell (i * 3)).trans m0
            have d1 := (RI.cell (i * 3 + 1)).trans m1
            have d2 := (RI.cell (i * 3 + 2)).trans m2
            have f0 := RI.fz (i * 3)
            have f1 := RI.fz (i * 3 + 1)
            have f2 := RI.fz (i * 3 + 2)
            clear m0 m1 m2
            go_wp2
            go_roundw
            case rel => exact ⟨i + 1, by omega, by go_num, ((RI.set (i * 3) _ _ rfl).set (i * 3 + 1) _ _ rfl).set (i * 3 + 2) _ _ (many_step _ _ _ _ _ _ i 65 hlt), ((BI.setCell (Nat.le_refl _) _).setCell (Nat.le_refl _) _).setCell (Nat.le_refl _) _⟩
            case measure => simp [intOf]; omega
          · obtain rfl : i = 65 := by omega
            clear hlt R5 B5
            have BW := Lib.hid (below_then HR.out BI)
            have e65 : ∀ z, manyL [.int .u8 1, .slice (some ⟨gk, 0, none⟩) 64 65, .slice (some ⟨gv, 0, none⟩) 256 257] z 65 65 = (List.replicate 65 (x0F gk gv)).flatMap cellsE := fun z => many_all (x0F gk gv) z 65
            rw [e65] at RI
            have HM := Lib.hid (Ents.of_row (es := List.replicate 65 (x0F gk gv)) RI (fun x hx => by
              rw [List.eq_of_mem_replicate hx]
              exact es9_ok wr gk gv (HK4.out.new BW.out) (HV4.out.new BW.out) _ (by simp [es9, x0F])))
            have HM64 := Lib.hid (HM.out.take 64 65 (x0F gk gv) (by omega))
            have HE := Lib.hid (HE4.out.new BW.out)
            have H64 := Lib.hid (show 64 = (List.replicate 64 (x0F gk gv)).length by rw [List.length_replicate])
            have H65 := Lib.hid (show 65 = (List.replicate 65 (x0F gk gv)).length by rw [List.length_replicate])
            clear RI BI e65
            go_wp2_with (first
              | (go_at_call 16; (with_reducible refine (encB64 _ _ _ _ _ HM64.out).mono ?_); rintro r6 w6 ⟨A6, c6, rfl, hb6⟩; have B6 := Lib.hid (below_then BW.out hb6); have HM6 := Lib.hid (HM.out.new hb6); have HM66 := Lib.hid (HM64.out.new hb6); have HE6 := Lib.hid (HE.out.new hb6))
              | (go_at_call 16; (with_reducible refine (encBadF 18446744073709551552 18446744073709551552 rfl (by omega) _ 64 _ _ _ _ HM66.out (ens_rep 64 gk gv) H64.out (by omega) 3 3 rfl enc64_bad).mono ?_); rintro r7 w7 ⟨A7, c7, rfl, hb7⟩; have B7 := Lib.hid (below_then B6.out hb7); have HM7 := Lib.hid (HM6.out.new hb7); have HE7 := Lib.hid (HE6.out.new hb7))
              | (go_at_call 16; (with_reducible refine (encBadF 0 0 rfl (by omega) _ 65 _ _ _ _ HM7.out (ens_rep 65 gk gv) H65.out (by omega) 2 2 rfl enc65_bad).mono ?_); rintro r8 w8 ⟨A8, c8, rfl, hb8⟩; have B8 := Lib.hid (below_then B7.out hb8); have HE8 := Lib.hid (HE7.out.new hb8))
              | (go_at_call 16; (with_reducible refine (encBadF 0 0 rfl (by omega) none 0 0 [] [] _ (Ents.void0 _) rfl rfl (by omega) 3 3 rfl enc0_bad).mono ?_); rintro r9 w9 ⟨A9, c9, rfl, hb9⟩; have B9 := Lib.hid (below_then B8.out hb9); have HE9 := Lib.hid (HE8.out.new hb9)))
            obtain ⟨a, o4, x4, ea, ho4, _, _, p0, p1, p2⟩ := HE9.out.at_ 4 (show 4 < 9 by omega)
            obtain rfl := Option.some.inj ea
            obtain ⟨rfl, rfl⟩ : o4 = ⟨0, [], []⟩ ∧ x4 = ⟨none, 0, none, 0⟩ := by
              have := Option.some.inj ho4
              exact ⟨(congrArg Prod.fst this).symm, (congrArg Prod.snd this).symm⟩
            obtain ⟨a, o1, x1, ea, ho1, _, _, q0, q1, q2⟩ := HE9.out.at_ 1 (show 1 < 9 by omega)
            obtain rfl := Option.some.inj ea
            obtain ⟨rfl, rfl⟩ : o1 = ⟨1, zs 65, []⟩ ∧ x1 = ⟨some ⟨gk, 0, none⟩, 65, none, 0⟩ := by
              have := Option.some.inj ho1
              exact ⟨(congrArg Prod.fst this).symm, (congrArg Prod.snd this).symm⟩
            simp only [zs_length, List.length_nil, Nat.reduceMul] at p0 p1 p2 q0 q1 q2
            have e12 : a3.add 12 = ⟨a3.block, a3.off + 12, none⟩ := by rw [← ha3]; exact addr_at _ _ _
            have e3 : a3.add 3 = ⟨a3.block, a3.off + 3, none⟩ := by rw [← ha3]; exact addr_at _ _ _
            simp only [e12, e3] at p0 p1 p2 q0 q1 q2
            clear ho4 ho1 ea k0 k1 k2 e12 e3
            have HX2 := Lib.hid (show Ents (w9.alloc (.cells #[.int .u8 0, .slice none 0 0, .slice none 0 0, .int .u8 1, .slice (some ⟨gk, 0, none⟩) 65 65, .slice none 0 0] 26)).drew (some ⟨w9.heap.size, 0, none⟩) [(⟨0, [], []⟩, ⟨none, 0, none, 0⟩), (⟨1, zs 65, []⟩, ⟨some ⟨gk, 0, none⟩, 65, none, 0⟩)] from Ents.of_row (Row.fresh w9 w9.heap.size rfl _ _ _ (by simp [cellsE, zs_length])).drew (fun x hx => by
              have hk9 := ((HK4.out.new B9.out).alloc (.cells #[.int .u8 0, .slice none 0 0, .slice none 0 0, .int .u8 1, .slice (some ⟨gk, 0, none⟩) 65 65, .slice none 0 0] 26)).drewE
              simp only [List.mem_cons, List.not_mem_nil, or_false] at hx
              rcases hx with rfl | rfl
              · exact ⟨by show 0 ≤ 255; omega, RB.void _, RB.void _⟩
              · exact ⟨by show 1 ≤ 255; omega, hk9, RB.void _⟩))
            have BX := Lib.hid (belowA B9.out (.cells #[.int .u8 0, .slice none 0 0, .slice none 0 0, .int .u8 1, .slice (some ⟨gk, 0, none⟩) 65 65, .slice none 0 0] 26)).drew
            go_region_held3 (fun w' => w'.cell? ⟨a3.block, a3.off + 12, none⟩ = some (.int .u8 0) ∧ w'.cell? ⟨a3.block, a3.off + 12 + 1, none⟩ = some (.slice none 0 0) ∧ w'.cell? ⟨a3.block, a3.off + 12 + 2, none⟩ = some (.slice none 0 0) ∧ w'.cell? ⟨a3.block, a3.off + 3, none⟩ = some (.int .u8 1) ∧ w'.cell? ⟨a3.block, a3.off + 3 + 1, none⟩ = some (.slice (some ⟨gk, 0, none⟩) 65 65) ∧ w'.cell? ⟨a3.block, a3.off + 3 + 2, none⟩ = some (.slice none 0 0)) (go_keep) (first
              | (go_at_call 16; go_loud (with_reducible refine (encBadF 0 0 rfl (by omega) _ 2 _ _ [⟨0, [], []⟩, ⟨1, zs 65, []⟩] _ HX2.out rfl rfl (by omega) 2 2 rfl enc2_bad).mono ?_); rintro ra wa ⟨Aa, ca, rfl, hba⟩; have Ba := Lib.hid (below_then BX.out hba); have nx := ((below_alloc1 (Below.refl w9.heap.size w9) (Nat.le_refl _) (.cells #[.int .u8 0, .slice none 0 0, .slice none 0 0, .int .u8 1, .slice (some ⟨gk, 0, none⟩) 65 65, .slice none 0 0] 26)).drew).trans (hba.mono (by show w9.heap.size ≤ (w9.alloc _).heap.size; rw [szA]; exact Nat.le_succ _)); have s0 := cell_newF nx p0; have s1 := cell_newF nx p1; have s2 := cell_newF nx p2; have s3 := cell_newF nx q0; have s4 := cell_newF nx q1; have s5 := cell_newF nx q2))
            all_goals
              have fin := trivial
              go_wp2_with (first
                | (go_at_call 21; (with_reducible refine (decB2F (some ⟨wa.heap.size, 0, none⟩) _ [0, 65] 2 _ (RB.litA wa 5 #[.int .u8 0, .int .u8 65] [0, 65] rfl 2 rfl (by decide) wa.heap.size rfl) rfl decB_065).mono ?_); rintro rb wb ⟨Ab, cb, rfl, hbb⟩; have Bb := Lib.hid (below_then (belowA Ba.out (.cells #[.int .u8 0, .int .u8 65] 5)) hbb))
                | (go_at_call 21; (with_reducible refine (decB2F (some ⟨wb.heap.size, 0, none⟩) _ [0, 0] 3 _ (RB.litA wb 5 #[.int .u8 0, .int .u8 0] [0, 0] rfl 2 rfl (by decide) wb.heap.size rfl) rfl decB_000).mono ?_); rintro rc wc ⟨Ac, cc, rfl, hbc⟩; have Bc := Lib.hid (below_then (belowA Bb.out (.cells #[.int .u8 0, .int .u8 0] 5)) hbc))
                | (go_at_call 24; (with_reducible refine (dec2F (some ⟨wc.heap.size, 0, none⟩) _ [1, 65] 2 _ (RB.litA wc 5 #[.int .u8 1, .int .u8 65] [1, 65] rfl 2 rfl (by decide) wc.heap.size rfl) rfl decF_165).mono ?_); rintro rd wd ⟨ad, rfl, hbd⟩; have Bd := Lib.hid (below_then (belowA Bc.out (.cells #[.int .u8 1, .int .u8 65] 5)) hbd))
                | (go_at_call 24; (with_reducible refine (dec2F (some ⟨wd.heap.size, 0, none⟩) _ [3, 65] 3 _ (RB.litA wd 5 #[.int .u8 3, .int .u8 65] [3, 65] rfl 2 rfl (by decide) wd.heap.size rfl) rfl decF_365).mono ?_); rintro re we ⟨ae, rfl, hbe⟩; have Be := Lib.hid (below_then (belowA Bd.out (.cells #[.int .u8 3, .int .u8 65] 5)) hbe))
                | (go_at_call 33; (with_reducible refine (encRootF 33 zeroR zeroR_ok 1 encR_33 _ _ zeroCellsR).mono ?_); rintro rf wf ⟨Af, cf, rfl, hbf⟩; have Bf := Lib.hid (below_then Be.out hbf))
                | (go_at_call 35; (with_reducible refine (decodeRoot_calls 0 none [] 0 0 _ (RB.void _) rfl (by simp) 1 zeroR decR_0).mono ?_); rintro rg wg ⟨rfl, hbg⟩; have Bg := Lib.hid (below_then Bf.out hbg))
                | (go_at_call 33; (with_reducible refine (encRootF 1 r01 r01_ok 3 encR_01 _ _ (by kernel_rfl)).mono ?_); rintro rh wh ⟨Ah, ch, rfl, hbh⟩; have Bh := Lib.hid (below_then Bg.out hbh))
                | (refine wp_makeB bt rfl _ _ rfl .i64 .i64 11 11 rfl rfl rfl (by omega) wh.heap.size (Nat.le_refl _) fun wi hoi hbi => ?_; have Bi := Lib.hid (below_then Bh.out hbi))
                | (go_at_call 35; (with_reducible refine (decodeRoot_calls 1 _ (List.replicate 11 0) 11 11 _ hoi.reads (List.length_replicate).symm (by rw [List.length_replicate]; omega) 3 zeroR decR_11).mono ?_); rintro rj wj ⟨rfl, hbj⟩; have Bj := Lib.hid (below_then Bi.out hbj)))
              go_ret
              exact ⟨rfl, below_then HB4.out Bj.out⟩
  have hT : (fun _ : World => True) w := trivial
  refine wp_region_held_drew (S := fun _ => True) (by kernel_rfl) trivial (fun hHeld => ?_)
  refine wpAnyH_ready (rs := [0, 1]) (by kernel_rfl) (by simp) ?_
  refine AllReadyH.cons rfl (fun K hK => ?_) (AllReadyH.cons rfl (fun K hK => ?_) AllReadyH.nil)
  case' refine_1 =>
    refine step_makeB bt rfl _ _ rfl .i64 .i64 65 65 65 rfl rfl rfl rfl (by omega) w0.heap.size (Nat.le_refl _) fun w1 ho1 hb1 _ => ?_
    refine hK.out _ _ trivial (fun hHeld => ?_)
    clear hK K
    try simp only [Act.put, List.getElem_toArray, List.getElem_cons_zero, List.setIfInBounds_toArray, List.set_cons_zero, List.set_cons_succ]
    refine wpAnyH_take (i := 2) (v := .slice (some ⟨w0.drew.heap.size, 0, none⟩) 65 65) rfl (by kernel_rfl) (by kernel_rfl) (by kernel_rfl) (fun _ _ _ h => h) (Or.inl ⟨by rfl, fun w hS => by go_simp⟩) (by assumption) ?_
    try simp only [Act.put, List.getElem_toArray, List.getElem_cons_succ, List.getElem_cons_zero, List.setIfInBounds_toArray, List.set_cons_zero, List.set_cons_succ]
    refine wpAnyH_ready (rs := [1]) (by kernel_rfl) (by simp) ?_
    refine AllReadyH.cons rfl (fun K hK => ?_) AllReadyH.nil
    refine step_makeB bt rfl _ _ rfl .i64 .i64 257 257 257 rfl rfl rfl rfl (by omega) w1.heap.size (Nat.le_refl _) fun w2 ho2 hb2 _ => ?_
    refine hK.out _ _ trivial (fun hHeld => ?_)
    clear hK K
    have K2 : RB w2 (some ⟨w0.drew.heap.size, 0, none⟩) 65 (zs 65) := ho1.reads.new hb2
    have V2 : RB w2 (some ⟨w1.heap.size, 0, none⟩) 257 (zs 257) := ho2.reads
    have B2 := below_then (below_then B0.out hb1) hb2
    clear ho1 ho2
    generalize w0.drew.heap.size = gk at *
    generalize w1.heap.size = gv at *
    try simp only [Act.put, List.getElem_toArray, List.getElem_cons_succ, List.getElem_cons_zero, List.setIfInBounds_toArray, List.set_cons_zero, List.set_cons_succ]
    refine wpAnyH_take (i := 3) (v := .slice (some ⟨gv, 0, none⟩) 257 257) rfl (by kernel_rfl) (by kernel_rfl) (by kernel_rfl) (fun _ _ _ h => h) (Or.inl ⟨by rfl, fun w hS => by go_simp⟩) (by assumption) ?_
    try simp only [Act.put, List.getElem_toArray, List.getElem_cons_succ, List.getElem_cons_zero, List.setIfInBounds_toArray, List.set_cons_zero, List.set_cons_succ]
    refine wpAnyH_done (by kernel_rfl) ?_ _
    clear hb1 hb2
  case' refine_2 =>
    refine step_makeB bt rfl _ _ rfl .i64 .i64 257 257 257 rfl rfl rfl rfl (by omega) w0.heap.size (Nat.le_refl _) fun w1 ho1 hb1 _ => ?_
    refine hK.out _ _ trivial (fun hHeld => ?_)
    clear hK K
    try simp only [Act.put, List.getElem_toArray, List.getElem_cons_succ, List.getElem_cons_zero, List.setIfInBounds_toArray, List.set_cons_zero, List.set_cons_succ]
    refine wpAnyH_ready (rs := [0]) (by kernel_rfl) (by simp) ?_
    refine AllReadyH.cons rfl (fun K hK => ?_) AllReadyH.nil
    refine step_makeB bt rfl _ _ rfl .i64 .i64 65 65 65 rfl rfl rfl rfl (by omega) w1.heap.size (Nat.le_refl _) fun w2 ho2 hb2 _ => ?_
    refine hK.out _ _ trivial (fun hHeld => ?_)
    clear hK K
    have K2 : RB w2 (some ⟨w1.heap.size, 0, none⟩) 65 (zs 65) := ho2.reads
    have V2 : RB w2 (some ⟨w0.drew.heap.size, 0, none⟩) 257 (zs 257) := ho1.reads.new hb2
    have B2 := below_then (below_then B0.out hb1) hb2
    clear ho1 ho2
    generalize w1.heap.size = gk at *
    generalize w0.drew.heap.size = gv at *
    try simp only [Act.put, List.getElem_toArray, List.getElem_cons_zero, List.setIfInBounds_toArray, List.set_cons_zero, List.set_cons_succ]
    refine wpAnyH_take (i := 2) (v := .slice (some ⟨gk, 0, none⟩) 65 65) rfl (by kernel_rfl) (by kernel_rfl) (by kernel_rfl) (fun _ _ _ h => h) (Or.inl ⟨by rfl, fun w hS => by go_simp⟩) (by assumption) ?_
    try simp only [Act.put, List.getElem_toArray, List.getElem_cons_succ, List.getElem_cons_zero, List.setIfInBounds_toArray, List.set_cons_zero, List.set_cons_succ]
    refine wpAnyH_take (i := 3) (v := .slice (some ⟨gv, 0, none⟩) 257 257) rfl (by kernel_rfl) (by kernel_rfl) (by kernel_rfl) (fun _ _ _ h => h) (Or.inl ⟨by rfl, fun w hS => by go_simp⟩) (by assumption) ?_
    try simp only [Act.put, List.getElem_toArray, List.getElem_cons_succ, List.getElem_cons_zero, List.setIfInBounds_toArray, List.set_cons_zero, List.set_cons_succ]
    refine wpAnyH_done (by kernel_rfl) ?_ _
    clear hb1 hb2
  all_goals exact REST _ _ _ K2 V2 B2
end Go.Proofs.Ytelecdncdaepnaa
