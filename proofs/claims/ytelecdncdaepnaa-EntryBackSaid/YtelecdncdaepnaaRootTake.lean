/- Layer 5: the document's TakeDigest, TakeRoot, DocDecodeRoot. -/
import Derived.Test.YtelecdncdaepnaaRootDec
import Derived.Test.YtelecdncdaepnaaRootDoc
import Derived.Test.YtelecdncdaepnaaDocTake
import Derived.Test.YtelecdncdaepnaaDocDecode
namespace Go.Proofs.Ytelecdncdaepnaa
open Go.RowKit
open WireMath (numS beN rawS blobS uvarS grpL uvarL wideL)

/-- the cells of a reader of the document -/
def rdL (A : Option Addr) (n c at_ e : Nat) : List Value := [.slice A n c, .int .i64 at_, .int .i64 e]
theorem sizeRd (A : Option Addr) (n c at_ e : Nat) : (Try.prog.info? 105).map (·.size) = some (rdL A n c at_ e).toArray.size := by kernel_rfl
theorem rdL_one (A : Option Addr) (n c at_ e : Nat) : (rdL A n c at_ e).toArray.all (·.oneCell') = true := by simp [rdL, Value.oneCell']
theorem tkRawS (A : Option Addr) (P : List UInt8) (c at_ e k : Nat) (w : World) (hp : RB w A c P) (hl : P.length ≤ 140737488355328) (hat : at_ ≤ P.length) (hk : k ≤ 32) (p : List UInt8) (a1 e1 : Nat) (h : rawS P at_ e k = (p, a1, e1)) :
    Calls Try.prog 106 #[.agg #[.slice A P.length c, .int .i64 at_, .int .i64 e], .int .i64 k] w fun e' w' => ∃ A' c', e' = .returned (.tuple #[.slice A' p.length c', .agg #[.slice A P.length c, .int .i64 a1, .int .i64 e1]]) ∧ NewB w w' (.slice A' p.length c') p := by
  have := takeRaw_calls A P c at_ e k e at_ rfl rfl w hp hl hat (by omega)
  rw [h] at this; exact this
theorem results_dg {fn : Func} {p q : Tmp} (h : fn.results = #[.cell p 61, .cell q 105]) (tmps : Array Value) (w : World) (b c : Nat) (T S : TypeId) (d : List UInt8) (hd : d.length = 32) (A : Option Addr) (n k at_ e : Nat) (hp : tmps.getD p undef = .pointer (some ⟨b, 0, none⟩)) (hq : tmps.getD q undef = .pointer (some ⟨c, 0, none⟩)) (ht : Row w b T (encB d)) (hu : Row w c S (rdL A n k at_ e)) :
    (results fn tmps).run Try.prog w = .ok (.tuple #[.agg (rB d), .agg (rdL A n k at_ e).toArray]) w := by
  have hp' : tmps[p]?.getD undef = .pointer (some ⟨b, 0, none⟩) := by simpa using hp
  have hq' : tmps[q]?.getD undef = .pointer (some ⟨c, 0, none⟩) := by simpa using hq
  have hl := run_loadVar_part (P := Try.prog) w ⟨b, 0, none⟩ 61 (rB d) _ (ht.part [] [] (encB d) (by simp) 0 rfl _ rfl) Try.underlying61 rfl (sizeD d hd)
  have hl2 := run_loadVar_part (P := Try.prog) w ⟨c, 0, none⟩ 105 (rdL A n k at_ e).toArray _ (hu.part [] [] (rdL A n k at_ e) (by simp) 0 rfl _ rfl) Try.underlying105 rfl (sizeRd A n k at_ e)
  simp [results, h, hp', hq', asAddr, hl, hl2]
theorem Trio.range {w : World} {b : Nat} {A : Option Addr} {n c at_ e : Nat} (h : Trio w b (.slice A n c) (.int .i64 at_) (.int .i64 e)) : w.rangeAt b 0 (rdL A n c at_ e) := by
  intro j v hj
  match j, hj with
  | 0, hj => simp [rdL] at hj; subst hj; exact h.c0
  | 1, hj => simp [rdL] at hj; subst hj; exact h.c1
  | 2, hj => simp [rdL] at hj; subst hj; exact h.c2
  | j + 3, hj => simp [rdL] at hj
theorem splice_zero (p : List UInt8) (_hp : p.length ≤ 32) : splice (encB zeroD) 0 (encB p) = encB (padR p) := by
  unfold splice padR
  rw [List.take_zero, List.nil_append, Nat.zero_add, encB_length, encB_drop, encB_append, show zeroD = List.replicate 32 0 from rfl, List.drop_replicate]
theorem grown3 (w : World) (g : Nat) (x y z : Value) : w.grownBy (((w.setCell ⟨g, 0, none⟩ x).setCell ⟨g, 1, none⟩ y).setCell ⟨g, 2, none⟩ z) (some g) := grown_trans (grown_trans (set_grown _ _ _ _) (set_grown _ _ _ _)) (set_grown _ _ _ _)
theorem Trio.grown {w w' : World} {b g : Nat} {x y z : Value} (h : Trio w b x y z) (hg : w.grownBy w' (some g)) (hne : b ≠ g) : Trio w' b x y z := h.keep (hg.block b h.lt (fun e => hne (Option.some.inj e)))
theorem RB.grown {w w' : World} {A : Option Addr} {c : Nat} {p : List UInt8} {g B : Nat} (h : RB w A c p) (hb : ∀ a, A = some a → 0 < p.length → B ≤ a.block) (hg : w.grownBy w' (some g)) (hgB : g < B) : RB w' A c p :=
  h.keep fun a e hp => hg.block _ (h.old.out a e hp) (fun e2 => by have := hb a e hp; have := Option.some.inj e2; omega)
set_option maxHeartbeats 400000 in
set_option maxRecDepth 100000 in
theorem takeDigest_calls (k : Nat) (hk : k ≤ 32) (A : Option Addr) (P : List UInt8) (c at_ e : Nat) (w : World) (hp : RB w A c P) (hl : P.length ≤ 140737488355328) (hat : at_ ≤ P.length) (p : List UInt8) (a1 e1 : Nat) (h : rawS P at_ e k = (p, a1, e1)) :
    Calls Try.prog 105 #[.int .i64 k, .agg #[.slice A P.length c, .int .i64 at_, .int .i64 e]] w fun r w' => r = .returned (.tuple #[.agg (rB (padR p)), .agg #[.slice A P.length c, .int .i64 a1, .int .i64 e1]]) ∧ Below w.heap.size w w' := by
  have hpl : p.length ≤ 32 := by have := raw_len P at_ e k; rw [h] at this; simp only at this; omega
  have HS := Lib.hid h
  have nw : ∀ (w : World) (o : Obj), Below w.heap.size w (w.alloc o) := fun w o => below_alloc1 (Below.refl _ _) (Nat.le_refl _) o
  have T3 := Lib.hid ((((Trio.fresh w w.heap.size rfl (.slice A P.length c) (.int .i64 at_) (.int .i64 e) 105).new (nw _ (.cells (encB zeroD).toArray 61))).new (nw _ (.cells #[.slice none 0 0, .int .i64 0, .int .i64 0] 105))).new (nw _ (.cells (encB zeroD).toArray 61)))
  have R4 := Lib.hid (((Row.fresh (w.alloc (.cells #[.slice A P.length c, .int .i64 at_, .int .i64 e] 105)) (w.heap.size + 1) (by rw [szA]) 61 (encB zeroD) _ rfl).new (nw _ (.cells #[.slice none 0 0, .int .i64 0, .int .i64 0] 105))).new (nw _ (.cells (encB zeroD).toArray 61)))
  have R5 := Lib.hid ((Row.fresh ((w.alloc (.cells #[.slice A P.length c, .int .i64 at_, .int .i64 e] 105)).alloc (.cells (encB zeroD).toArray 61)) (w.heap.size + 1 + 1) (by rw [szA, szA]) 105 [.slice none 0 0, .int .i64 0, .int .i64 0] _ rfl).new (nw _ (.cells (encB zeroD).toArray 61)))
  have R6 := Lib.hid (Row.fresh (((w.alloc (.cells #[.slice A P.length c, .int .i64 at_, .int .i64 e] 105)).alloc (.cells (encB zeroD).toArray 61)).alloc (.cells #[.slice none 0 0, .int .i64 0, .int .i64 0] 105)) (w.heap.size + 1 + 1 + 1) (by rw [szA, szA, szA]) 61 (encB zeroD) _ rfl)
  have B0 := Lib.hid (belowA (belowA (belowA (nw w (.cells #[.slice A P.length c, .int .i64 at_, .int .i64 e] 105)) (.cells (encB zeroD).toArray 61)) (.cells #[.slice none 0 0, .int .i64 0, .int .i64 0] 105)) (.cells (encB zeroD).toArray 61))
  clear h nw
  have hall := fun (w' : World) (A : Addr) => run_all_arr (P := Try.prog) w' 61 5 32 Try.underlying61 (by kernel_rfl) A
  go_enter Try.func105, Try.ntmps105
  go_wp2_with (first
    | (go_at_call 106; (refine (tkRawS A P c at_ e k _ (hp.new B0.out) hl hat hk p a1 e1 HS.out).mono ?_); rintro s1 w1 ⟨A1, c1, rfl, hn1⟩; have T31 := Lib.hid (T3.out.new hn1.below); have R41 := Lib.hid (R4.out.new hn1.below); have R51 := Lib.hid (R5.out.new hn1.below); have R61 := Lib.hid (R6.out.new hn1.below); have B1 := Lib.hid (below_then B0.out hn1.below); have t0 := T31.out.c0; have t1 := T31.out.c1; have t2 := T31.out.c2; have f0 := T31.out.fz 0; have f1 := T31.out.fz 1; have f2 := T31.out.fz 2)
    | (refine wpList_copy_part rfl _ _ 24 24 rfl 5 bt.sl (by kernel_rfl) (w.heap.size + 1 + 1 + 1) 0 32 32 p.length c1 A1 rfl rfl (encB zeroD) 61 (R61.out.grown (grown3 _ w.heap.size _ _ _) (by omega)) p rfl hpl (hn1.own.reads.grown (B := w.heap.size + 1) (fun a e hp => by have h1 := hn1.own.lo a e hp; simp only [szA] at h1; omega) (grown3 _ w.heap.size _ _ _) (by omega)) (by rw [encB_length]; simp [zeroD]; omega) (encB (padR p)) (splice_zero p hpl) ?_; intro w2 R62 hg2))
  have T32 := Lib.hid (((T31.out.put (.slice A P.length c) (.int .i64 a1) (.int .i64 e1)).grown hg2 (by omega)).drew)
  have R42 := Lib.hid (((R41.out.grown (grown3 w1 w.heap.size (.slice A P.length c) (.int .i64 a1) (.int .i64 e1)) (by omega)).grown hg2 (by omega)).drew)
  have R52 := Lib.hid (((R51.out.grown (grown3 w1 w.heap.size (.slice A P.length c) (.int .i64 a1) (.int .i64 e1)) (by omega)).grown hg2 (by omega)).drew)
  have B2 := Lib.hid ((grown_below (grown_below B1.out (grown3 w1 w.heap.size (.slice A P.length c) (.int .i64 a1) (.int .i64 e1)) B1.out.size (by omega)) hg2 (grown_below B1.out (grown3 w1 w.heap.size (.slice A P.length c) (.int .i64 a1) (.int .i64 e1)) B1.out.size (by omega)).size (by omega)).drew)
  have hpad := padR_length p hpl
  have hU := Try.underlying61
  have hI : (Try.prog.info? 61).map (·.size) = some (encB (padR p)).length := by rw [encB_length, hpad]; kernel_rfl
  have hU2 := Try.underlying105
  have hI2 : (Try.prog.info? 105).map (·.size) = some (rdL A P.length c a1 e1).length := by kernel_rfl
  refine wp_region_held_drew (S := fun w' => w'.rangeAt (w.heap.size + 1 + 1 + 1) 0 (encB (padR p)) ∧ w'.rangeAt w.heap.size 0 (rdL A P.length c a1 e1)) (by kernel_rfl) ⟨R62.drew.range [] [] _ (by simp) 0 rfl, T32.out.range⟩ (fun hHeld => ?_)
  refine wpAnyH_take (i := 0) (v := .agg (encB (padR p)).toArray) rfl (by kernel_rfl) (by kernel_rfl) (by kernel_rfl) (fun _ _ _ h => h) (yieldsIf_load_mid (by rfl) _ _ rfl (w.heap.size + 1 + 1 + 1) 0 rfl _ _ (fun w' h => h.1) hU rfl hI) (by assumption) ?_
  try simp only [Act.put, List.getElem_toArray, List.getElem_cons_zero, List.setIfInBounds_toArray, List.set_cons_zero, List.set_cons_succ]
  refine wpAnyH_take (i := 1) (v := .agg (rdL A P.length c a1 e1).toArray) rfl (by kernel_rfl) (by kernel_rfl) (by kernel_rfl) (fun _ _ _ h => h) (yieldsIf_load_mid (by rfl) _ _ rfl w.heap.size 0 rfl _ _ (fun w' h => h.2) hU2 rfl hI2) (by assumption) ?_
  try simp only [Act.put, List.getElem_toArray, List.getElem_cons_succ, List.getElem_cons_zero, List.setIfInBounds_toArray, List.set_cons_zero, List.set_cons_succ]
  refine wpAnyH_ready (rs := [2]) (by kernel_rfl) (by simp) ?_
  refine AllReadyH.cons rfl (fun K hK => ?_) AllReadyH.nil
  refine step_store_part rfl 61 _ _ rfl (w.heap.size + 1) 0 _ rfl rfl _ _ R42.out.out (sizeD _ hpad) (by rw [List.size_toArray, List.size_toArray, encB_length, encB_length, hpad]; exact Nat.le_refl 32) (rB_one (padR p)) ?_
  have G4 := row_grown w2.drew (w.heap.size + 1) (splice (encB zeroD).toArray.toList 0 (rB (padR p)).toList).toArray
  have R43 := Lib.hid (R42.out.put 0 (rB (padR p)).toList (encB (padR p)) (splice_all _ _ (by rw [encB_length]; simp [rB, encB_length, hpad, zeroD])))
  have R53 := Lib.hid (R52.out.grown G4 (by omega))
  have B3 := Lib.hid (grown_below B2.out G4 B2.out.size (by omega))
  refine hK.out _ _ ⟨(R62.drew.grown G4 (by omega)).range [] [] _ (by simp) 0 rfl, (T32.out.grown G4 (by omega)).range⟩ (fun hHeld2 => ?_)
  clear hK K
  try simp only [Act.put, List.getElem_toArray, List.getElem_cons_succ, List.getElem_cons_zero]
  refine wpAnyH_ready (rs := [3]) (by kernel_rfl) (by simp) ?_
  refine AllReadyH.cons rfl (fun K hK => ?_) AllReadyH.nil
  refine step_store_part rfl 105 _ _ rfl (w.heap.size + 1 + 1) 0 _ rfl rfl _ _ R53.out.out (sizeRd A P.length c a1 e1) (Nat.le_refl 3) (rdL_one A P.length c a1 e1) ?_
  have G5 := fun W => row_grown W (w.heap.size + 1 + 1) (splice [Value.slice none 0 0, Value.int .i64 0, Value.int .i64 0].toArray.toList 0 (rdL A P.length c a1 e1).toArray.toList).toArray
  refine hK.out _ _ ⟨((R62.drew.grown G4 (by omega)).grown (G5 _) (by omega)).range [] [] _ (by simp) 0 rfl, ((T32.out.grown G4 (by omega)).grown (G5 _) (by omega)).range⟩ (fun hHeld3 => ?_)
  clear hK K
  try simp only [Act.put, List.getElem_toArray, List.getElem_cons_succ, List.getElem_cons_zero]
  refine wpAnyH_done (by kernel_rfl) ?_ _
  go_wp2
  exact bodyPost_ret (results_dg rfl _ _ (w.heap.size + 1) (w.heap.size + 1 + 1) _ _ (padR p) hpad A P.length c a1 e1 rfl rfl (R43.out.grown (G5 _) (by omega)) (R53.out.put 0 (rdL A P.length c a1 e1).toArray.toList (rdL A P.length c a1 e1) rfl)) rfl ⟨rfl, grown_below B3.out (G5 _) B3.out.size (by omega)⟩
/-- the boxes of TakeRoot -/
structure DQ (w0 w : World) (x y z : Value) (r : Rt) : Prop where
  rd : Trio w w0.heap.size x y z
  r4 : Row w (w0.heap.size + 1) 63 (rtL zeroR)
  r5 : Row w (w0.heap.size + 1 + 1) 105 [.slice none 0 0, .int .i64 0, .int .i64 0]
  r6 : Row w (w0.heap.size + 1 + 1 + 1) 63 (rtL r)
  below : Below w0.heap.size w0 w
theorem DQ.new {w0 w w' : World} {x y z : Value} {r : Rt} (h : DQ w0 w x y z r) (hb : Below w.heap.size w w') : DQ w0 w' x y z r := ⟨h.rd.new hb, h.r4.new hb, h.r5.new hb, h.r6.new hb, below_then h.below hb⟩
theorem DQ.drew {w0 w : World} {x y z : Value} {r : Rt} (h : DQ w0 w x y z r) : DQ w0 w.drew x y z r := h.new (below_drew _ _)
theorem DQ.putR {w0 w : World} {x y z : Value} {r : Rt} (h : DQ w0 w x y z r) (u v t : Value) : DQ w0 (((w.setCell ⟨w0.heap.size, 0, none⟩ u).setCell ⟨w0.heap.size, 1, none⟩ v).setCell ⟨w0.heap.size, 2, none⟩ t) u v t r :=
  ⟨h.rd.put u v t, h.r4.grown (grown3 _ _ _ _ _) (by omega), h.r5.grown (grown3 _ _ _ _ _) (by omega), h.r6.grown (grown3 _ _ _ _ _) (by omega), grown_below h.below (grown3 _ _ _ _ _) h.below.size (Nat.le_refl _)⟩
theorem DQ.setS {w0 w : World} {x y z : Value} {r : Rt} (h : DQ w0 w x y z r) (v : Nat) : DQ w0 (w.setCell ⟨w0.heap.size + 1 + 1 + 1, 0, none⟩ (.int .u64 v)) x y z ⟨v, r.l, r.m⟩ :=
  ⟨h.rd.grown (set_grown _ _ _ _) (by omega), h.r4.grown (set_grown _ _ _ _) (by omega), h.r5.grown (set_grown _ _ _ _) (by omega), h.r6.set 0 (.int .u64 v) _ rfl, grown_below h.below (set_grown _ _ _ _) h.below.size (by omega)⟩
theorem DQ.part {w0 w : World} {x y z : Value} {r : Rt} (h : DQ w0 w x y z r) (off : Nat) (cs : List Value) (r' : Rt) (hr : splice (rtL r) off cs = rtL r') : DQ w0 (w.setRow (w0.heap.size + 1 + 1 + 1) (splice (rtL r).toArray.toList off cs).toArray) x y z r' :=
  ⟨h.rd.grown (row_grown _ _ _) (by omega), h.r4.grown (row_grown _ _ _) (by omega), h.r5.grown (row_grown _ _ _) (by omega), h.r6.put off cs _ hr, grown_below h.below (row_grown _ _ _) h.below.size (by omega)⟩
theorem DQ.start (w : World) (x y z : Value) : DQ w ((((w.alloc (.cells #[x, y, z] 105)).alloc (.cells Try.zeroCells63 63)).alloc (.cells #[.slice none 0 0, .int .i64 0, .int .i64 0] 105)).alloc (.cells Try.zeroCells63 63)) x y z zeroR := by
  have nw : ∀ (w : World) (o : Obj), Below w.heap.size w (w.alloc o) := fun w o => below_alloc1 (Below.refl _ _) (Nat.le_refl _) o
  exact ⟨(((Trio.fresh w w.heap.size rfl x y z _).new (nw _ _)).new (nw _ _)).new (nw _ _), ((Row.fresh _ (w.heap.size + 1) (by rw [szA]) _ _ _ zeroCellsR).new (nw _ _)).new (nw _ _), (Row.fresh _ (w.heap.size + 1 + 1) (by rw [szA, szA]) _ _ _ rfl).new (nw _ _), Row.fresh _ (w.heap.size + 1 + 1 + 1) (by rw [szA, szA, szA]) _ _ _ zeroCellsR, belowA (belowA (belowA (nw _ _) _) _) _⟩
theorem tkWide8 (A : Option Addr) (P : List UInt8) (c at_ e : Nat) (w : World) (hp : RB w A c P) (hl : P.length ≤ 140737488355328) (hat : at_ ≤ P.length) (v a1 e1 : Nat) (h : numS P at_ e 8 = (v, a1, e1)) (N : Int) (hN : N = (8 : Nat)) :
    Calls Try.prog 98 #[.agg #[.slice A P.length c, .int .i64 at_, .int .i64 e], .int .i64 N] w fun e' w' => e' = .returned (.tuple #[.int .u64 v, .agg #[.slice A P.length c, .int .i64 a1, .int .i64 e1]]) ∧ Below w.heap.size w w' := by
  have := takeWide_calls A P c at_ e 8 N e at_ hN rfl rfl w hp (by omega) hat (by omega)
  rw [h] at this; exact this
theorem results_r2 {fn : Func} {p q : Tmp} (h : fn.results = #[.cell p 63, .cell q 105]) (tmps : Array Value) (w : World) (b c : Nat) (T S : TypeId) (r : Rt) (hr : RtOk r) (A : Option Addr) (n k at_ e : Nat) (hp : tmps.getD p undef = .pointer (some ⟨b, 0, none⟩)) (hq : tmps.getD q undef = .pointer (some ⟨c, 0, none⟩)) (ht : Row w b T (rtL r)) (hu : Row w c S (rdL A n k at_ e)) :
    (results fn tmps).run Try.prog w = .ok (.tuple #[.agg (rtL r).toArray, .agg (rdL A n k at_ e).toArray]) w := by
  have hp' : tmps[p]?.getD undef = .pointer (some ⟨b, 0, none⟩) := by simpa using hp
  have hq' : tmps[q]?.getD undef = .pointer (some ⟨c, 0, none⟩) := by simpa using hq
  have hl := run_loadVar_part (P := Try.prog) w ⟨b, 0, none⟩ 63 (rtL r).toArray _ (ht.part [] [] (rtL r) (by simp) 0 rfl _ rfl) Try.underlying63 rfl (sizeR r hr)
  have hl2 := run_loadVar_part (P := Try.prog) w ⟨c, 0, none⟩ 105 (rdL A n k at_ e).toArray _ (hu.part [] [] (rdL A n k at_ e) (by simp) 0 rfl _ rfl) Try.underlying105 rfl (sizeRd A n k at_ e)
  simp [results, h, hp', hq', asAddr, hl, hl2]
theorem numS_top (P : List UInt8) (v a1 e1 : Nat) (h : numS P 0 0 8 = (v, a1, e1)) : v ≤ 18446744073709551615 := by
  unfold WireMath.numS at h
  rw [if_neg (by simp)] at h
  split at h
  · have e := congrArg Prod.fst h; simp only at e; omega
  · have e := congrArg Prod.fst h
    simp only at e
    have h9 := WireMath.beN_lt ((P.drop 0).take 8) 8 (List.length_take_le _ _)
    omega
theorem rootField1 (g : Nat) (w : World) : (Instr.fieldAt 63 (.pointer (some ⟨g, 0, none⟩)) 1).run Try.prog w = .ok (.pointer (some ⟨g, 1, none⟩)) w := by
  have hu := run_underlying (P := Try.prog) Try.underlying63 w
  simp [Instr.fieldAt, Sem.run_bind, hu, fieldPlace, Instr.sureAddr, Addr.add]
theorem rootField2 (g : Nat) (w : World) : (Instr.fieldAt 63 (.pointer (some ⟨g, 0, none⟩)) 2).run Try.prog w = .ok (.pointer (some ⟨g, 33, none⟩)) w := by
  have hu := run_underlying (P := Try.prog) Try.underlying63 w
  simp [Instr.fieldAt, Sem.run_bind, hu, fieldPlace, Instr.sureAddr, Addr.add]
theorem padR_id (p : List UInt8) (h : p.length = 32) : padR p = p := by unfold padR; rw [h]; simp
theorem splice_log2 (v : Nat) (p : List UInt8) (hp : p.length ≤ 32) : splice (rtL ⟨v, zeroR.l, zeroR.m⟩) 1 (rB (padR p)).toList = rtL ⟨v, padR p, zeroD⟩ := by
  have h := splice_log (.int .u64 v) zeroD zeroD (padR p) rfl (by rw [padR_length p hp]; omega)
  rw [padR_id _ (padR_length p hp)] at h
  exact h
theorem splice_map2 (v : Nat) (p q : List UInt8) (hp : p.length ≤ 32) (hq : q.length ≤ 32) : splice (rtL ⟨v, padR p, zeroD⟩) 33 (rB (padR q)).toList = rtL ⟨v, padR p, padR q⟩ := by
  have h := splice_map (.int .u64 v) (padR p) zeroD (padR q) (padR_length p hp) rfl (by rw [padR_length q hq]; omega)
  rw [padR_id _ (padR_length q hq)] at h
  exact h
set_option maxHeartbeats 1000000 in
set_option maxRecDepth 100000 in
theorem takeRoot_calls (k : Nat) (hk : k ≤ 32) (A : Option Addr) (P : List UInt8) (c : Nat) (w : World) (hp : RB w A c P) (hl : P.length ≤ 140737488355328) (v a1 e1 : Nat) (p : List UInt8) (a2 e2 : Nat) (q : List UInt8) (a3 e3 : Nat) (hS : RtS P k v a1 e1 p a2 e2 q a3 e3) :
    Calls Try.prog 85 #[.int .i64 k, .agg #[.slice A P.length c, .int .i64 0, .int .i64 0]] w fun r w' => r = .returned (.tuple #[.agg (rtL ⟨v, padR p, padR q⟩).toArray, .agg (rdL A P.length c a3 e3).toArray]) ∧ Below w.heap.size w w' := by
  have hpl : p.length ≤ 32 := by have := raw_len P a1 e1 k; rw [hS.s2] at this; simp only at this; omega
  have hql : q.length ≤ 32 := by have := raw_len P a2 e2 k; rw [hS.s3] at this; simp only at this; omega
  have hat1 : a1 ≤ P.length := by have := num_le P 0 0 8 (Nat.zero_le _); rw [hS.s1] at this; exact this
  have hat2 : a2 ≤ P.length := by have := raw_le P a1 e1 k hat1; rw [hS.s2] at this; exact this
  have HOK := Lib.hid (show RtOk ⟨v, padR p, padR q⟩ from ⟨numS_top P v a1 e1 hS.s1, padR_length p hpl, padR_length q hql⟩)
  have HOK2 := Lib.hid (show RtOk ⟨v, padR p, zeroD⟩ from ⟨HOK.out.s, padR_length p hpl, zeroR_ok.l⟩)
  have HS := Lib.hid hS
  have D0 := Lib.hid (DQ.start w (.slice A P.length c) (.int .i64 0) (.int .i64 0))
  have h8 := Lib.hid (show (8 : Int) = ((8 : Nat) : Int) from rfl)
  have c0 := Lib.hid (show (0 : Int) = ((0 : Nat) : Int) from rfl)
  clear hS
  go_enter Try.func85, Try.ntmps85
  go_wp2_with (first
    | (go_at_call 98; (refine (tkWide8 A P c 0 0 _ (hp.new D0.out.below) hl (Nat.zero_le _) v a1 e1 HS.out.s1 8 rfl).mono ?_); rintro s1 w1 ⟨rfl, hb1⟩; have D1 := Lib.hid (D0.out.new hb1); have cc := (D1.out.r6.cell 0).trans (show (rtL zeroR)[0]? = some (.int .u64 0) from rfl); have ff := D1.out.r6.fz 0; have DA := Lib.hid (D1.out.setS v); have t0 := DA.out.rd.c0; have t1 := DA.out.rd.c1; have t2 := DA.out.rd.c2; have f0 := DA.out.rd.fz 0; have f1 := DA.out.rd.fz 1; have f2 := DA.out.rd.fz 2; have DB := Lib.hid (DA.out.putR (.slice A P.length c) (.int .i64 a1) (.int .i64 e1)); have u0 := DB.out.rd.c0; have u1 := DB.out.rd.c1; have u2 := DB.out.rd.c2)
    | (go_at_call 105; (with_reducible refine (takeDigest_calls k hk A P c a1 e1 _ (hp.new DB.out.below) hl hat1 p a2 e2 HS.out.s2).mono ?_); rintro s2 w2 ⟨rfl, hb2⟩; have D2 := Lib.hid (DB.out.new hb2))
    | (refine wp_op_is (.store 61 (.tmp 26) (.tmp 24)) rfl ?_; refine wp_store_part rfl 61 _ _ rfl (w.heap.size + 1 + 1 + 1) 33 _ rfl rfl _ _ (by exact D4.out.r6.out) (sizeD _ (padR_length q hql)) (Nat.le_of_eq (by rw [rB_size, padR_length q hql, List.size_toArray, rtL_length _ HOK2.out])) (rB_one _) ?_; have DE := Lib.hid (D4.out.part 33 (rB (padR q)).toList ⟨v, padR p, padR q⟩ (splice_map2 v p q hpl hql)); have xg0 := DE.out.rd.c0; have xg1 := DE.out.rd.c1; have xg2 := DE.out.rd.c2; have xh0 := DE.out.rd.fz 0; have xh1 := DE.out.rd.fz 1; have xh2 := DE.out.rd.fz 2; have DF := Lib.hid (DE.out.putR (.slice A P.length c) (.int .i64 a3) (.int .i64 e3)); have xg3 := DF.out.rd.c0; have xg4 := DF.out.rd.c1; have xg5 := DF.out.rd.c2)
    | (refine wp_op_is (.store 61 (.tmp 19) (.tmp 17)) rfl ?_; refine wp_store_part rfl 61 _ _ rfl (w.heap.size + 1 + 1 + 1) 1 _ rfl rfl _ _ (by exact D2.out.r6.out) (sizeD _ (padR_length p hpl)) (by rw [rB_size, padR_length p hpl, List.size_toArray]; show 1 + 32 ≤ 65; omega) (rB_one _) ?_; have DC := Lib.hid (D2.out.part 1 (rB (padR p)).toList ⟨v, padR p, zeroD⟩ (splice_log2 v p hpl)); have xa0 := DC.out.rd.c0; have xa1 := DC.out.rd.c1; have xa2 := DC.out.rd.c2; have xb0 := DC.out.rd.fz 0; have xb1 := DC.out.rd.fz 1; have xb2 := DC.out.rd.fz 2; have DD := Lib.hid (DC.out.putR (.slice A P.length c) (.int .i64 a2) (.int .i64 e2)); have xa3 := DD.out.rd.c0; have xa4 := DD.out.rd.c1; have xa5 := DD.out.rd.c2)
    | (go_at_call 105; (with_reducible refine (takeDigest_calls k hk A P c a2 e2 _ (hp.new DD.out.below) hl hat2 q a3 e3 HS.out.s3).mono ?_); rintro s4 w4 ⟨rfl, hb4⟩; have D4 := Lib.hid (DD.out.new hb4)))
  have DG := Lib.hid DF.out.drew
  have hU := Try.underlying63
  have hI : (Try.prog.info? 63).map (·.size) = some (rtL ⟨v, padR p, padR q⟩).length := by rw [rtL_length _ HOK.out]; kernel_rfl
  have hU2 := Try.underlying105
  have hI2 : (Try.prog.info? 105).map (·.size) = some (rdL A P.length c a3 e3).length := by kernel_rfl
  refine wp_region_held_drew (S := fun w' => w'.rangeAt (w.heap.size + 1 + 1 + 1) 0 (rtL ⟨v, padR p, padR q⟩) ∧ w'.rangeAt w.heap.size 0 (rdL A P.length c a3 e3)) (by kernel_rfl) ⟨DG.out.r6.range [] [] _ (by simp) 0 rfl, DG.out.rd.range⟩ (fun hHeld => ?_)
  obtain ⟨W, hW⟩ : ∃ W, W = (((((w4.setRow (w.heap.size + 1 + 1 + 1) (splice (rtL ⟨v, padR p, zeroD⟩).toArray.toList 33 (rB (padR q)).toList).toArray).setCell ⟨w.heap.size, 0, none⟩ (.slice A P.length c)).setCell ⟨w.heap.size, 1, none⟩ (.int .i64 a3)).setCell ⟨w.heap.size, 2, none⟩ (.int .i64 e3)).drew) := ⟨_, rfl⟩
  rw [← hW] at hHeld DG ⊢
  clear hW
  refine wpAnyH_take (i := 0) (v := .agg (rtL ⟨v, padR p, padR q⟩).toArray) rfl (by kernel_rfl) (by kernel_rfl) (by kernel_rfl) (fun _ _ _ h => h) (yieldsIf_load_mid (by rfl) _ _ rfl (w.heap.size + 1 + 1 + 1) 0 rfl _ _ (fun w' h => h.1) hU rfl hI) (by assumption) ?_
  try simp only [Act.put, List.getElem_toArray, List.getElem_cons_zero, List.setIfInBounds_toArray, List.set_cons_zero, List.set_cons_succ]
  refine wpAnyH_take (i := 1) (v := .agg (rdL A P.length c a3 e3).toArray) rfl (by kernel_rfl) (by kernel_rfl) (by kernel_rfl) (fun _ _ _ h => h) (yieldsIf_load_mid (by rfl) _ _ rfl w.heap.size 0 rfl _ _ (fun w' h => h.2) hU2 rfl hI2) (by assumption) ?_
  try simp only [Act.put, List.getElem_toArray, List.getElem_cons_succ, List.getElem_cons_zero, List.setIfInBounds_toArray, List.set_cons_zero, List.set_cons_succ]
  refine wpAnyH_ready (rs := [2]) (by kernel_rfl) (by simp) ?_
  refine AllReadyH.cons rfl (fun K hK => ?_) AllReadyH.nil
  refine step_store_part rfl 63 _ _ rfl (w.heap.size + 1) 0 _ rfl rfl _ _ DG.out.r4.out (sizeR _ HOK.out) (Nat.le_of_eq (by rw [List.size_toArray, List.size_toArray, rtL_length _ HOK.out, rtL_length _ zeroR_ok])) (rtL_one _) ?_
  have G4 := row_grown W (w.heap.size + 1) (splice (rtL zeroR).toArray.toList 0 (rtL ⟨v, padR p, padR q⟩).toArray.toList).toArray
  have R43 := Lib.hid (DG.out.r4.put 0 (rtL ⟨v, padR p, padR q⟩).toArray.toList (rtL ⟨v, padR p, padR q⟩) (splice_all _ _ ((rtL_length _ zeroR_ok).trans (rtL_length _ HOK.out).symm)))
  have R53 := Lib.hid (DG.out.r5.grown G4 (by omega))
  have B3 := Lib.hid (grown_below DG.out.below G4 DG.out.below.size (by omega))
  refine hK.out _ _ ⟨(DG.out.r6.grown G4 (by omega)).range [] [] _ (by simp) 0 rfl, (DG.out.rd.grown G4 (by omega)).range⟩ (fun hHeld2 => ?_)
  clear hK K
  try simp only [Act.put, List.getElem_toArray, List.getElem_cons_succ, List.getElem_cons_zero]
  refine wpAnyH_ready (rs := [3]) (by kernel_rfl) (by simp) ?_
  refine AllReadyH.cons rfl (fun K hK => ?_) AllReadyH.nil
  refine step_store_part rfl 105 _ _ rfl (w.heap.size + 1 + 1) 0 _ rfl rfl _ _ R53.out.out (sizeRd A P.length c a3 e3) (Nat.le_refl 3) (rdL_one A P.length c a3 e3) ?_
  have G5 := fun W => row_grown W (w.heap.size + 1 + 1) (splice [Value.slice none 0 0, Value.int .i64 0, Value.int .i64 0].toArray.toList 0 (rdL A P.length c a3 e3).toArray.toList).toArray
  refine hK.out _ _ ⟨((DG.out.r6.grown G4 (by omega)).grown (G5 _) (by omega)).range [] [] _ (by simp) 0 rfl, ((DG.out.rd.grown G4 (by omega)).grown (G5 _) (by omega)).range⟩ (fun hHeld3 => ?_)
  clear hK K
  try simp only [Act.put, List.getElem_toArray, List.getElem_cons_succ, List.getElem_cons_zero]
  refine wpAnyH_done (by kernel_rfl) ?_ _
  go_wp2
  exact bodyPost_ret (results_r2 rfl _ _ (w.heap.size + 1) (w.heap.size + 1 + 1) _ _ ⟨v, padR p, padR q⟩ HOK.out A P.length c a3 e3 rfl rfl (R43.out.grown (G5 _) (by omega)) (R53.out.put 0 (rdL A P.length c a3 e3).toArray.toList (rdL A P.length c a3 e3) rfl)) rfl ⟨rfl, grown_below B3.out (G5 _) B3.out.size (by omega)⟩
end Go.Proofs.Ytelecdncdaepnaa
