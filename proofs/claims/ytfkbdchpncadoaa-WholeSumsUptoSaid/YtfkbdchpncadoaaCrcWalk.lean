/- The walks of the check sum's functions: each call comes to what the plain functions of CrcMath say. -/
import Derived.Test.YtfkbdchpncadoaaWords
import Derived.Deep.LoopGhost
import Derived.Deep.DeepCutAuto
namespace Go.Proofs.Ytfkbdchpncadoaa
open Go.RowKit
open CrcMath (W)
attribute [local go_sem] uI_not bits_xor_uI bits_xor_byte

theorem turn_calls (x : W) (w : World) :
    Calls Try.prog 33 #[.int .u32 (uI x)] w fun e w' => e = .returned (.int .u32 (uI (CrcMath.turn x))) ∧ w = w' := by
  have hr := uI_range x
  have h1 := bits_and_one x
  have h2 : bits .xor .u32 (uI x / 2) 2197175160 = uI (x >>> 1 ^^^ 2197175160#32) := by rw [uI_half]; exact bits_xor_lit (x >>> 1) 2197175160
  unfold CrcMath.turn
  cases hb : x.getLsbD 0
  · rw [hb, if_neg (by decide)] at h1
    rw [if_neg (by decide)]
    clear h2 hb
    go_enter Try.func33, Try.ntmps33
    go_wp2
    go_ret
    exact ⟨ret_int (uI_half x), rfl⟩
  · rw [hb, if_pos rfl] at h1
    rw [if_pos rfl]
    clear hb
    go_enter Try.func33, Try.ntmps33
    go_wp2
    go_ret
    exact ⟨rfl, rfl⟩

theorem step_calls (x : W) (w : World) :
    Calls Try.prog 26 #[.int .u32 (uI x)] w fun e w' => e = .returned (.int .u32 (uI (CrcMath.Z x))) ∧ w = w' := by
  unfold CrcMath.Z
  go_enter Try.func26, Try.ntmps26
  go_wp2
  go_loop [0, 3] (fun c i => ∃ k : Nat, k ≤ 8 ∧ i = .int .i64 k ∧ c = .int .u32 (uI (CrcMath.it CrcMath.turn k x))) (fun _ i => 8 - (intOf i).toNat)
  case atStart => exact ⟨0, by omega, rfl, rfl⟩
  case round =>
    obtain ⟨k, hk, rfl, rfl⟩ := hrel
    by_cases hlt : k < 8
    · go_wp2_with (go_at_call 33; (with_reducible refine (turn_calls _ _).mono ?_); rintro e w' ⟨rfl, rfl⟩)
      go_round
      case rel => exact ⟨k + 1, by omega, by go_num, rfl⟩
      case measure => simp [intOf]; omega
    · obtain rfl : k = 8 := by omega
      go_wp2
      go_ret
      exact ⟨rfl, rfl⟩

theorem take_snoc {α : Type} (p : List α) (k : Nat) (h : k < p.length) : p.take (k + 1) = p.take k ++ [p[k]] := List.take_succ_eq_append_getElem h

theorem update_calls (c : W) (A : Option Addr) (p : List UInt8) (cap : Nat) (w : World) (hp : RB w A cap p) :
    Calls Try.prog 13 #[.int .u32 (uI c), .slice A p.length cap] w fun e w' => e = .returned (.int .u32 (uI (CrcMath.upd c (p.map bW)))) ∧ w = w' := by
  have hl := hp.small
  unfold CrcMath.upd
  go_enter Try.func13, Try.ntmps13
  go_wp2
  go_loop [0, 11] (fun c' i => ∃ k : Nat, k ≤ p.length ∧ i = .int .i64 k ∧ c' = .int .u32 (uI (CrcMath.reg (~~~ c) ((p.map bW).take k)))) (fun _ i => p.length - (intOf i).toNat)
  case atStart => exact ⟨0, by omega, rfl, rfl⟩
  case round =>
    obtain ⟨k, hk, rfl, rfl⟩ := hrel
    by_cases hlt : k < p.length
    · obtain ⟨a, rfl, hc⟩ := hp.at_ k hlt
      have hs : CrcMath.reg (~~~ c) ((p.map bW).take (k + 1)) = CrcMath.Z (CrcMath.reg (~~~ c) ((p.map bW).take k) ^^^ bW p[k]) := by
        rw [take_snoc (p.map bW) k (by simpa using hlt), CrcMath.reg_append, List.getElem_map]; rfl
      have HS := Lib.hid hs
      clear hs hp
      have hr := uB_range p[k]
      go_wp2_with (go_at_call 26; (with_reducible refine (step_calls _ _).mono ?_); rintro e w' ⟨rfl, rfl⟩)
      go_round
      case rel => exact ⟨k + 1, by omega, by go_num, by rw [HS.out]⟩
      case measure => simp [intOf]; omega
    · obtain rfl : k = p.length := by omega
      go_wp2
      go_ret
      exact ⟨ret_int (by rw [List.take_of_length_le (by simp)]), rfl⟩

theorem sum_calls (A : Option Addr) (p : List UInt8) (cap : Nat) (w : World) (hp : RB w A cap p) :
    Calls Try.prog 16 #[.slice A p.length cap] w fun e w' => e = .returned (.int .u32 (uI (CrcMath.sum (p.map bW)))) ∧ w = w' := by
  have h := update_calls 0 A p cap w hp
  rw [show uI 0 = 0 from rfl] at h
  have H := Lib.hid h
  clear h
  go_enter Try.func16, Try.ntmps16
  go_wp2_with (go_at_call 13; (with_reducible refine (H.out).mono ?_); rintro e w' ⟨rfl, rfl⟩)
  go_ret
  exact ⟨rfl, rfl⟩

structure TabIs (cs : Array Value) (m : Nat → W) : Prop where
  size : cs.size = 32
  get : ∀ i, i < 32 → cs[i]? = some (.int .u32 (uI (m i)))

theorem and_shr (c : W) (k : Nat) : (bits .and .u32 (uI c / 2 ^ k) 1 == 1) = c.getLsbD k := by
  have e : uI c / 2 ^ k = uI (c >>> k) := by
    unfold uI
    rw [BitVec.toNat_ushiftRight, Nat.shiftRight_eq_div_pow]; simp
  rw [e, bits_and_one, BitVec.getLsbD_ushiftRight, Nat.add_zero]
  cases c.getLsbD k <;> rfl

theorem of_calls (cs : Array Value) (m : Nat → W) (h : TabIs cs m) (c : W) (w : World) :
    Calls Try.prog 29 #[.agg cs, .int .u32 (uI c)] w fun e w' => e = .returned (.int .u32 (uI (CrcMath.ofTo m c 32))) ∧ Below w.heap.size w w' := by
  go_enter Try.func29, Try.ntmps29
  go_wp2
  go_loop [5, 7] (fun v i => ∃ k : Nat, k ≤ 32 ∧ i = .int .i64 k ∧ v = .int .u32 (uI (CrcMath.ofTo m c k))) (fun _ i => 32 - (intOf i).toNat)
  case atStart => exact ⟨0, by omega, rfl, rfl⟩
  case round =>
    obtain ⟨k, hk, rfl, rfl⟩ := hrel
    by_cases hlt : k < 32
    · have hc := h.get k hlt
      have hr := uI_range c
      have hb := and_shr c k
      cases hbb : c.getLsbD k
      · rw [hbb] at hb
        have HB := Lib.hid hbb
        clear hbb
        go_wp2
        go_round
        case rel => exact ⟨k + 1, by omega, by go_num, by simp only [CrcMath.ofTo, HB.out]; rfl⟩
        case measure => simp [intOf]; omega
      · rw [hbb] at hb
        have HB := Lib.hid hbb
        clear hbb
        go_wp2
        go_round
        case rel => exact ⟨k + 1, by omega, by go_num, by simp only [CrcMath.ofTo, HB.out]; rfl⟩
        case measure => simp [intOf]; omega
    · obtain rfl : k = 32 := by omega
      go_wp2
      go_ret
      exact ⟨rfl, (Below.refl _ _).alloc (Nat.le_refl _) _⟩

theorem tab_one (cs : Array Value) (m : Nat → W) (h : TabIs cs m) : cs.all (·.oneCell') = true := by
  rw [Array.all_eq_true]
  intro i hi
  have := h.get i (by rw [← h.size]; exact hi)
  rw [Array.getElem?_eq_getElem hi] at this
  rw [Option.some.inj this]; rfl
theorem sizeLinear : (Try.prog.info? 44).map (·.size) = some 32 := by kernel_rfl
theorem indexLinear (cs : Array Value) (m : Nat → W) (h : TabIs cs m) (k : Nat) (hk : k < 32) (w : World) : (Instr.index 44 (.agg cs) (.int .i64 k)).run Try.prog w = .ok (.int .u32 (uI (m k))) w := by
  have hc := h.get k hk
  have hp : (part 22 cs (k * 1)).run Try.prog w = .ok (.int .u32 (uI (m k))) w := by rw [Nat.mul_one]; exact run_part_plain (P := Try.prog) w (e := 22) (by kernel_rfl) hc
  have hsz : (sizeOf 22).run Try.prog w = .ok 1 w := by kernel_rfl
  have hlt : (0 : Int) ≤ (k : Int) ∧ (k : Int) < ((32 : Nat) : Int) := by omega
  unfold Instr.index
  simp only [Sem.run_bind, Sem.run_pure, asIntOf, run_underlying Try.underlying44, Result.andThen_ok, if_pos hlt, hsz, Int.toNat_natCast, hp]

/-- three new blocks -/
theorem wp_gen3 {P : Program} {ops : Array Oper} {Q : Exit → Act → World → Prop} {l : List Oper} {a : Act} {w : World} {o1 o2 o3 : Obj}
    (h : ∀ W : World, W.heap[w.heap.size]? = some o1 → W.heap[w.heap.size + 1]? = some o2 → W.heap[w.heap.size + 2]? = some o3 → W.heap.size = w.heap.size + 3 → Below w.heap.size w W → wpList P ops Q l a W) :
    wpList P ops Q l a (((w.alloc o1).alloc o2).alloc o3) := by
  refine h _ ?_ ?_ ?_ (by simp) ((((Below.refl _ _).alloc (Nat.le_refl _) _).alloc (by simp) _).alloc (by simp; omega) _)
  · rw [Below.heap_alloc _ _ _ (by simp; omega), Below.heap_alloc _ _ _ (by simp)]; exact heap_alloc_new w o1
  · rw [Below.heap_alloc _ _ _ (by simp)]
    have := heap_alloc_new (w.alloc o1) o2
    simpa using this
  · have := heap_alloc_new ((w.alloc o1).alloc o2) o3
    simpa using this

theorem below_setRow {B : Nat} {a w : World} (h : Below B a w) {g : Nat} (hg : B ≤ g) (cs : Array Value) : Below B a (w.setRow g cs) :=
  h.trans ⟨rfl, rfl, rfl, by simp, fun k hk => setRow_other _ _ _ _ (by omega)⟩

structure TabTo (cs : Array Value) (m : Nat → W) (n : Nat) : Prop where
  size : cs.size = 32
  get : ∀ i, i < n → cs[i]? = some (.int .u32 (uI (m i)))
  old : ∀ i, i < 32 → ∃ o, cs[i]? = some o
theorem TabTo.set {cs : Array Value} {m : Nat → W} {n : Nat} (h : TabTo cs m n) (hn : n < 32) : TabTo (cs.setIfInBounds n (.int .u32 (uI (m n)))) m (n + 1) := by
  refine ⟨by simp [h.size], fun i hi => ?_, fun i hi => ?_⟩
  · rw [Array.getElem?_setIfInBounds]
    split
    · rename_i e; subst e; rw [if_pos (by rw [h.size]; exact hn)]
    · exact h.get i (by omega)
  · rw [Array.getElem?_setIfInBounds]
    split
    · rename_i e; subst e; rw [if_pos (by rw [h.size]; exact hn)]; exact ⟨_, rfl⟩
    · exact h.old i hi
theorem TabTo.all {cs : Array Value} {m : Nat → W} (h : TabTo cs m 32) : TabIs cs m := ⟨h.size, h.get⟩
theorem TabTo.none {cs : Array Value} (m : Nat → W) (h : cs.size = 32) : TabTo cs m 0 := ⟨h, fun _ hi => absurd hi (by omega), fun i hi => ⟨_, Array.getElem?_eq_getElem (by omega)⟩⟩

structure TwiceRel (cs : Array Value) (m : Nat → W) (w : World) (k : Nat) (wr : World) : Prop where
  below : Below w.heap.size w wr
  size : w.heap.size + 3 ≤ wr.heap.size
  b0 : wr.heap[w.heap.size]? = some (.cells cs 44 (0, 0))
  b1 : ∃ z, wr.heap[w.heap.size + 1]? = some (.cells z 44 (0, 0)) ∧ z.size = 32
  b2 : ∃ cur, wr.heap[w.heap.size + 2]? = some (.cells cur 44 (0, 0)) ∧ TabTo cur m k

theorem TwiceRel.next {cs : Array Value} {m : Nat → W} {w : World} {k : Nat} {wr w2 : World} (h : TwiceRel cs m w k wr) (hk : k < 32) (hb : Below wr.heap.size wr w2) :
    TwiceRel cs m w (k + 1) (w2.setCell ⟨w.heap.size + 2, k, none⟩ (.int .u32 (uI (m k)))) := by
  have hs := h.size
  have hz := hb.size
  refine ⟨(h.below.trans (hb.mono (by omega))).setCell (by simp) _, by simp [World.setCell]; omega, ?_, ?_, ?_⟩
  · rw [heap_setCell_other _ _ _ _ (by simp), hb.block _ (by omega)]; exact h.b0
  · obtain ⟨z, h1, h2⟩ := h.b1
    exact ⟨z, by rw [heap_setCell_other _ _ _ _ (by simp), hb.block _ (by omega)]; exact h1, h2⟩
  · obtain ⟨cur, h1, h2⟩ := h.b2
    exact ⟨_, heap_setCell_same _ _ _ cur 44 _ (by rw [hb.block _ (by omega)]; exact h1), h2.set hk⟩

theorem TwiceRel.cell {cs : Array Value} {m : Nat → W} {w : World} {k : Nat} {wr w2 : World} (h : TwiceRel cs m w k wr) (hk : k < 32) (hb : Below wr.heap.size wr w2) :
    ∃ o, w2.cell? ⟨w.heap.size + 1 + 1, k, none⟩ = some o ∧ w2.frozen? ⟨w.heap.size + 1 + 1, k, none⟩ = false := by
  have hs := h.size
  obtain ⟨cur, h1, h2⟩ := h.b2
  obtain ⟨o, ho⟩ := h2.old k hk
  have hh : w2.heap[w.heap.size + 1 + 1]? = some (.cells cur 44 (0, 0)) := by rw [hb.block _ (by omega)]; exact h1
  exact ⟨o, by rw [cell_of_row _ _ _ _ _ _ hh]; exact ho, frozen_of_row _ _ _ _ _ hh⟩

theorem twice_calls (cs : Array Value) (m : Nat → W) (h : TabIs cs m)  (w : World) :
    Calls Try.prog 30 #[.agg cs] w fun e w' => (∃ cs', TabIs cs' (fun i => CrcMath.ofTo m (m i) 32) ∧ e = .returned (.agg cs')) ∧ Below w.heap.size w w' := by
  have hi : (Try.prog.info? 44).map (·.size) = some cs.size := by rw [h.size]; exact sizeLinear
  have HI := Lib.hid hi
  clear hi
  go_enter Try.func30, Try.ntmps30
  go_upto_region 2 with (fail)
  refine wp_region_lit ?_
  refine wp_gen3 fun W1 h1 h2 h3 h4 h5 => ?_
  have HR : TwiceRel cs (fun i => CrcMath.ofTo m (m i) 32) w 0 W1 := ⟨h5, by omega, h1, ⟨_, h2, rfl⟩, ⟨_, h3, TabTo.none _ rfl⟩⟩
  clear h1 h2 h3 h4 h5
  refine wpList_load_row rfl 44 _ rfl w.heap.size rfl 44 cs (0, 0) _ HR.b0 Try.underlying44 rfl HI.out ?_
  go_wp2
  go_loopw [7] (fun i wr => ∃ k : Nat, k ≤ 32 ∧ i = .int .i64 k ∧ TwiceRel cs (fun i => CrcMath.ofTo m (m i) 32) w k wr) (fun i _ => 32 - (intOf i).toNat)
  case atStart => exact ⟨0, by omega, rfl, HR⟩
  case round =>
    clear HR
    obtain ⟨k, hk, rfl, HR⟩ := hrel
    by_cases hlt : k < 32
    · have hx := indexLinear cs m h k hlt
      have hb0 := HR.b0
      go_wp2_with (first | (go_at_call 29; (with_reducible refine (of_calls cs m h _ _).mono ?_); rintro e w2 ⟨rfl, hb⟩; obtain ⟨old, hc2, hf2⟩ := HR.cell hlt hb) | (refine wpList_load_row rfl 44 _ rfl w.heap.size rfl 44 cs (0, 0) _ hb0 Try.underlying44 rfl HI.out ?_))
      go_roundw
      case rel => exact ⟨k + 1, by omega, by go_num, HR.next hlt hb⟩
      case measure => simp [intOf]; omega
    · obtain rfl : k = 32 := by omega
      obtain ⟨z, hz, hzs⟩ := HR.b1
      obtain ⟨cur, hc, hcs⟩ := HR.b2
      have hsz := hcs.size
      have hic : (Try.prog.info? 44).map (·.size) = some cur.size := by rw [hsz]; exact sizeLinear
      have hold : z.size = cur.size := by omega
      have HIC := Lib.hid hic
      have HO := Lib.hid hold
      have HB := HR.below
      have HS := HR.size
      have hcs' := hcs.all
      have h1 := tab_one _ _ hcs'
      clear hic hold hzs hsz
      go_wp2_with (first | (refine wpList_load_row rfl 44 _ rfl (w.heap.size + 1 + 1) rfl 44 cur (0, 0) _ hc Try.underlying44 rfl HIC.out ?_) | (refine wpList_plain rfl fun _ hK => wp_store_row 44 _ _ rfl (w.heap.size + 1) cur rfl rfl 44 z hz HIC.out HO.out h1 (hK _ _ ?_)))
      exact bodyPost_ret (v := .agg cur) (results_cell_row rfl _ _ (w.heap.size + 1) 44 cur (0, 0) _ rfl (setRow_heap _ _ z cur 44 (0, 0) hz) Try.underlying44 rfl HIC.out) rfl ⟨⟨cur, hcs', rfl⟩, below_setRow HB (by omega) _⟩

theorem uI_unit (k : Nat) : (2 : Int) ^ k % 4294967296 = uI (CrcMath.unit k) := by
  unfold uI CrcMath.unit
  rw [BitVec.toNat_shiftLeft, Nat.shiftLeft_eq, show (1 : W).toNat = 1 from rfl, Nat.one_mul]
  simp

structure FillRel (w : World) (k : Nat) (wr : World) : Prop where
  below : Below w.heap.size w wr
  size : w.heap.size + 1 ≤ wr.heap.size
  b : ∃ cur, wr.heap[w.heap.size]? = some (.cells cur 44 (0, 0)) ∧ TabTo cur (fun i => CrcMath.Z (CrcMath.unit i)) k
theorem FillRel.cell {w : World} {k : Nat} {wr : World} (h : FillRel w k wr) (hk : k < 32) :
    ∃ o, wr.cell? ⟨w.heap.size, k, none⟩ = some o ∧ wr.frozen? ⟨w.heap.size, k, none⟩ = false := by
  obtain ⟨cur, h1, h2⟩ := h.b
  obtain ⟨o, ho⟩ := h2.old k hk
  exact ⟨o, by rw [cell_of_row _ _ _ _ _ _ h1]; exact ho, frozen_of_row _ _ _ _ _ h1⟩
theorem FillRel.next {w : World} {k : Nat} {wr : World} (h : FillRel w k wr) (hk : k < 32) :
    FillRel w (k + 1) (wr.setCell ⟨w.heap.size, k, none⟩ (.int .u32 (uI (CrcMath.Z (CrcMath.unit k))))) := by
  have hs := h.size
  obtain ⟨cur, h1, h2⟩ := h.b
  exact ⟨h.below.setCell (by simp) _, by simp [World.setCell]; omega, _, heap_setCell_same _ _ _ cur _ _ h1, h2.set hk⟩

structure JoinTab (w : World) (G : W → W) (wr : World) : Prop where
  below : Below w.heap.size w wr
  size : w.heap.size + 1 ≤ wr.heap.size
  lin : CrcMath.Lin G
  b : ∃ cs, wr.heap[w.heap.size]? = some (.cells cs 44 (0, 0)) ∧ TabIs cs (fun i => G (CrcMath.unit i))
theorem JoinTab.keep {w : World} {G : W → W} {wr w2 : World} (h : JoinTab w G wr) (hb : Below wr.heap.size wr w2) : JoinTab w G w2 := by
  have hs := h.size
  have hz := hb.size
  obtain ⟨cs, h1, h2⟩ := h.b
  exact ⟨h.below.trans (hb.mono (by omega)), by omega, h.lin, cs, by rw [hb.block _ (by omega)]; exact h1, h2⟩
theorem JoinTab.twice {w : World} {G : W → W} {wr w2 : World} {cs' : Array Value} (h : JoinTab w G wr) (hb : Below wr.heap.size wr w2) (hc : TabIs cs' (fun i => CrcMath.ofTo (fun i => G (CrcMath.unit i)) (G (CrcMath.unit i)) 32)) :
    JoinTab w (fun x => G (G x)) (w2.setRow w.heap.size cs') := by
  have h' := h.keep hb
  obtain ⟨cs, h1, h2⟩ := h'.b
  refine ⟨below_setRow h'.below (Nat.le_refl _) _, by simp; exact h'.size, CrcMath.lin_twice h.lin, cs', setRow_heap _ _ _ _ _ _ h1, hc.size, fun i hi => ?_⟩
  rw [hc.get i hi, CrcMath.ofTo_unit h.lin]
structure JoinIn (Z0 : W → W) (a : W) (n : Int) (G : W → W) (x : W) (n' : Int) : Prop where
  out : CrcMath.it G n'.toNat x = CrcMath.it Z0 n.toNat a
theorem JoinIn.even {Z0 : W → W} {a : W} {n : Int} {G : W → W} {x : W} {n' : Int} (h : JoinIn Z0 a n G x n') (h0 : 0 < n') (hm : ¬ n' % 2 = 1) : JoinIn Z0 a n (fun x => G (G x)) x (n' / 2) := by
  refine ⟨?_⟩
  rw [← h.out, ← CrcMath.it_even G n'.toNat x (by omega)]
  congr 1
  omega
theorem JoinIn.odd {Z0 : W → W} {a : W} {n : Int} {G : W → W} {x : W} {n' : Int} (h : JoinIn Z0 a n G x n') (h0 : 0 < n') (hm : n' % 2 = 1) : JoinIn Z0 a n (fun x => G (G x)) (G x) (n' / 2) := by
  refine ⟨?_⟩
  rw [← h.out, ← CrcMath.it_odd G n'.toNat x (by omega)]
  congr 1
  omega
theorem JoinIn.done {Z0 : W → W} {a : W} {n : Int} {G : W → W} {x : W} {n' : Int} (h : JoinIn Z0 a n G x n') (h0 : ¬ 0 < n') : x = CrcMath.it Z0 n.toNat a := by
  rw [← h.out, show n'.toNat = 0 by omega]; rfl

/-- a new block -/
theorem wp_gen1 {P : Program} {Q : Exit → Act → World → Prop} {c : Code} {a : Act} {w : World} {o : Obj}
    (h : ∀ W : World, W.heap[w.heap.size]? = some o → W.heap.size = w.heap.size + 1 → Below w.heap.size w W → c.wp P Q a W) : c.wp P Q a (w.alloc o) :=
  h _ (heap_alloc_new w o) (by simp) ((Below.refl _ _).alloc (Nat.le_refl _) _)

theorem join_keep {w wr w2 : World} {cs : Array Value} {t : TypeId} (hb : Below wr.heap.size wr w2) (hl : w.heap.size + 1 ≤ wr.heap.size) (h : wr.heap[w.heap.size]? = some (.cells cs t (0, 0))) : w2.heap[w.heap.size]? = some (.cells cs t (0, 0)) := by
  rw [hb.block _ (by omega)]; exact h
theorem join_size {cs : Array Value} {m : Nat → W} (h : TabIs cs m) : (Try.prog.info? 44).map (·.size) = some cs.size := by rw [h.size]; exact sizeLinear
theorem join_sizes {cs cs' : Array Value} {m m' : Nat → W} (h : TabIs cs m) (h' : TabIs cs' m') : cs.size = cs'.size := h.size.trans h'.size.symm

theorem join_calls (a b : W) (n : Int) (h0 : -9223372036854775808 ≤ n) (h1 : n ≤ 9223372036854775807) (w : World) :
    Calls Try.prog 18 #[.int .u32 (uI a), .int .u32 (uI b), .int .i64 n] w fun e w' => e = .returned (.int .u32 (uI (CrcMath.joinN a b n.toNat))) ∧ Below w.heap.size w w' := by
  go_enter Try.func18, Try.ntmps18
  go_upto_region 2 with (fail)
  refine wp_gen1 fun W1 g1 g2 g3 => ?_
  have HR : FillRel w 0 W1 := ⟨g3, by omega, _, g1, TabTo.none _ rfl⟩
  clear g1 g2 g3
  go_wp2
  go_loopw [9] (fun i wr => ∃ k : Nat, k ≤ 32 ∧ i = .int .i64 k ∧ FillRel w k wr) (fun i _ => 32 - (intOf i).toNat)
  case atStart => exact ⟨0, by omega, rfl, HR⟩
  case round =>
    clear HR
    obtain ⟨k, hk, rfl, HR⟩ := hrel
    by_cases hlt : k < 32
    · obtain ⟨o, hc, hf⟩ := HR.cell hlt
      have hu := uI_unit k
      go_wp2_with (go_at_call 26; (with_reducible refine (step_calls _ _).mono ?_); rintro e w' ⟨rfl, rfl⟩)
      go_roundw
      case rel => exact ⟨k + 1, by omega, by go_num, HR.next hlt⟩
      case measure => simp [intOf]; omega
    · go_wp2_with fail
      have HJ : JoinTab w CrcMath.Z wr := by
        obtain rfl : k = 32 := by omega
        obtain ⟨cur, e1, e2⟩ := HR.b
        exact ⟨HR.below, HR.size, CrcMath.lin_Z, cur, e1, e2.all⟩
      have HI : JoinIn CrcMath.Z a n CrcMath.Z a n := ⟨rfl⟩
      clear HR
      obtain ⟨wo, rfl⟩ : ∃ wo : World, wo = wr := ⟨_, rfl⟩
      go_loopw [0, 2] (fun c i wr => ∃ (n' : Int) (x : W) (G : W → W), -9223372036854775808 ≤ n' ∧ n' ≤ 9223372036854775807 ∧ i = .int .i64 n' ∧ c = .int .u32 (uI x) ∧ JoinTab w G wr ∧ JoinIn CrcMath.Z a n G x n') (fun _ i _ => (intOf i).toNat)
      case atStart => exact ⟨n, a, CrcMath.Z, h0, h1, rfl, rfl, HJ, HI⟩
      case round =>
        clear HJ HI
        obtain ⟨n', x, G, b0, b1, rfl, rfl, HJ, HI⟩ := hrel
        by_cases hpos : 0 < n'
        · obtain ⟨cs, HGC, ht⟩ := HJ.b
          have hsz : (Try.prog.info? 44).map (·.size) = some cs.size := by rw [ht.size]; exact sizeLinear
          have HS := Lib.hid hsz
          have hof := fun w => of_calls cs _ ht x w
          have htw := fun w => twice_calls cs _ ht w
          have HOF := Lib.hid hof
          have HTW := Lib.hid htw
          clear hsz hof htw
          by_cases hodd : n' % 2 = 1
          · have hb : (n' % 2 == 1) = true := by simp [hodd]
            have HO := Lib.hid hodd
            clear hodd
            go_wp2_with (first | (go_at_call 29; (with_reducible refine (HOF.out _).mono ?_); rintro e w2 ⟨rfl, hb2⟩; have HGC := join_keep hb2 HJ.size HGC; replace HJ := HJ.keep hb2) | (go_at_call 30; (with_reducible refine (HTW.out _).mono ?_); rintro e w3 ⟨⟨cs', ht', rfl⟩, hb3⟩; have HJ3 := HJ.twice hb3 ht'; have HGC := join_keep hb3 HJ.size HGC; have HS2 := Lib.hid (join_size ht'); have HSS := Lib.hid (join_sizes ht ht'); have HONE := tab_one _ _ ht') | (refine wpList_load_row rfl 44 _ rfl w.heap.size rfl 44 cs (0, 0) _ HGC Try.underlying44 rfl HS.out ?_) | (refine wpList_plain rfl fun _ hK => wp_store_row 44 _ _ rfl w.heap.size cs' rfl rfl 44 cs HGC HS2.out HSS.out HONE (hK _ _ ?_)))
            go_roundw
            case rel => exact ⟨n' / 2, G x, _, by omega, by omega, rfl, by rw [CrcMath.ofTo_unit HJ.lin], HJ3, HI.odd hpos HO.out⟩
            case measure => simp [intOf]; omega
          · have hb : (n' % 2 == 1) = false := by simp [hodd]
            have HO := Lib.hid hodd
            clear hodd
            go_wp2_with (first | (go_at_call 30; (with_reducible refine (HTW.out _).mono ?_); rintro e w3 ⟨⟨cs', ht', rfl⟩, hb3⟩; have HJ3 := HJ.twice hb3 ht'; have HGC := join_keep hb3 HJ.size HGC; have HS2 := Lib.hid (join_size ht'); have HSS := Lib.hid (join_sizes ht ht'); have HONE := tab_one _ _ ht') | (refine wpList_load_row rfl 44 _ rfl w.heap.size rfl 44 cs (0, 0) _ HGC Try.underlying44 rfl HS.out ?_) | (refine wpList_plain rfl fun _ hK => wp_store_row 44 _ _ rfl w.heap.size cs' rfl rfl 44 cs HGC HS2.out HSS.out HONE (hK _ _ ?_)))
            go_roundw
            case rel => exact ⟨n' / 2, x, _, by omega, by omega, rfl, rfl, HJ3, HI.even hpos HO.out⟩
            case measure => simp [intOf]; omega
        · go_wp2
          go_ret
          exact ⟨ret_int (by unfold CrcMath.joinN; rw [← HI.done (by omega)]), HJ.below⟩

/-! ### The same, with the length and the answer spelled as a caller has them -/
theorem updateR (c : W) (A : Option Addr) (p : List UInt8) (n cap : Nat) (w : World) (hp : RB w A cap p) (hn : n = p.length) (r : W) (hr : CrcMath.upd c (p.map bW) = r) :
    Calls Try.prog 13 #[.int .u32 (uI c), .slice A n cap] w fun e w' => e = .returned (.int .u32 (uI r)) ∧ w = w' := by
  subst hn; subst hr; exact update_calls c A p cap w hp
theorem sumR (A : Option Addr) (p : List UInt8) (n cap : Nat) (w : World) (hp : RB w A cap p) (hn : n = p.length) (r : W) (hr : CrcMath.sum (p.map bW) = r) :
    Calls Try.prog 16 #[.slice A n cap] w fun e w' => e = .returned (.int .u32 (uI r)) ∧ w = w' := by
  subst hn; subst hr; exact sum_calls A p cap w hp
theorem joinR (a b : W) (n : Int) (h0 : -9223372036854775808 ≤ n) (h1 : n ≤ 9223372036854775807) (w : World) (r : W) (hr : CrcMath.joinN a b n.toNat = r) :
    Calls Try.prog 18 #[.int .u32 (uI a), .int .u32 (uI b), .int .i64 n] w fun e w' => e = .returned (.int .u32 (uI r)) ∧ Below w.heap.size w w' := by
  subst hr; exact join_calls a b n h0 h1 w
theorem map_bW_append (p q : List UInt8) : (p ++ q).map bW = p.map bW ++ q.map bW := List.map_append
end Go.Proofs.Ytfkbdchpncadoaa
