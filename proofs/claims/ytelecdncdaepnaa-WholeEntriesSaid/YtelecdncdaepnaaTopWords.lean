/- Layer 5 through the theorems: the small functions of notarytop: width, short, fits, cut, sameEntry. -/
import Derived.Test.YtelecdncdaepnaaRootForm
import Derived.Test.YtelecdncdaepnaaEntryTwin
import Derived.Test.YtelecdncdaepnaaWireCut
import Derived.Deep.RegionHeld3
namespace Go.Proofs.Ytelecdncdaepnaa
open Go.RowKit
open WireMath (numS beN rawS blobS uvarS grpL uvarL wideL)

theorem sizeDT (d : List UInt8) (hd : d.length = 32) : (Try.prog.info? 61).map (·.size) = some (rB d).size := by rw [rB_size, hd]; kernel_rfl
theorem set_grownT (w : World) (g j : Nat) (v : Value) : w.grownBy (w.setCell ⟨g, j, none⟩ v) (some g) := ⟨rfl, rfl, rfl, by simp [World.setCell], fun k _ hk => heap_setCell_other _ _ _ _ (fun e => hk (by rw [e]))⟩
theorem topwidth_calls (x : Nat) (X : Int) (hX : X = x) (hx : x ≤ 255) (w : World) : Calls Try.prog 41 #[.int .u8 X] w fun e w' => e = .returned (.int .i64 ((1 + x % 32 : Nat) : Int)) ∧ w = w' := by
  subst hX
  go_enter Try.func41, Try.ntmps41
  go_wp2
  go_ret
  exact ⟨ret_int (by simp), rfl⟩
theorem topshort_calls (A : Option Addr) (p : List UInt8) (n c m : Nat) (M : Int) (hM : M = m) (w : World) (hp : RB w A c p) (hn : n = p.length) (_hm : m ≤ 1000) :
    Calls Try.prog 86 #[.slice A n c, .int .i64 M] w fun e w' => e = .returned (.slice A (p.take m).length c) ∧ w = w' := by
  subst hM hn
  by_cases h : m < p.length
  · have hcut := fun w' : World => run_cut_h w' A p.length c m m rfl (by have := hp.len; omega)
    have HL := Lib.hid (show (p.take m).length = m by rw [List.length_take]; omega)
    go_enter Try.func86, Try.ntmps86
    go_wp2
    go_ret
    exact ⟨by rw [HL.out]; rfl, rfl⟩
  · have HL := Lib.hid (show (p.take m).length = p.length by rw [List.length_take]; omega)
    go_enter Try.func86, Try.ntmps86
    go_wp2
    go_ret
    exact ⟨by rw [HL.out]; rfl, rfl⟩
theorem topshortN (A : Option Addr) (p : List UInt8) (n c m : Nat) (M : Int) (hM : M = m) (w : World) (hp : RB w A c p) (hn : n = p.length) (hm : m ≤ 1000) (N : Nat) (hN : N = (p.take m).length) :
    Calls Try.prog 86 #[.slice A n c, .int .i64 M] w fun e w' => e = .returned (.slice A N c) ∧ w = w' := by
  subst hN; exact topshort_calls A p n c m M hM w hp hn hm
/-- an entry that may be appended -/
def fitF (e : En) : En := if e.k % 2 = 0 then ⟨2, e.K.take 64, []⟩ else ⟨1, e.K.take 64, e.V.take 256⟩
theorem fitF_chk (e : En) : chkF (fitF e) = 0 := by
  have h1 : (e.K.take 64).length ≤ 64 := List.length_take_le _ _
  have h2 : (e.V.take 256).length ≤ 256 := List.length_take_le _ _
  unfold fitF chkF
  split
  · simp only [List.length_nil]
    rw [if_neg (by omega), if_neg (by omega)]
  · simp only
    rw [if_neg (by omega), if_neg (by omega)]
def fitA (e : En) (a : EnA) : EnA := if e.k % 2 = 0 then ⟨a.KA, a.kc, none, 0⟩ else ⟨a.KA, a.kc, a.VA, a.vc⟩
theorem fit_ok (w : World) (e : En) (a : EnA) (h : EnOk w e a) : EnOk w (fitF e) (fitA e a) := by
  unfold fitF fitA
  split
  · exact ⟨by show 2 ≤ 255; omega, h.K.take 64, RB.void w⟩
  · exact ⟨by show 1 ≤ 255; omega, h.K.take 64, h.V.take 256⟩
set_option maxHeartbeats 400000 in
set_option maxRecDepth 100000 in
theorem topfits_calls (e : En) (a : EnA) (n m : Nat) (hn : n = e.K.length) (hm : m = e.V.length) (w : World) (hok : EnOk w e a) :
    Calls Try.prog 38 #[.agg #[.int .u8 e.k, .slice a.KA n a.kc, .slice a.VA m a.vc]] w fun r w' => r = .returned (.agg #[.int .u8 (fitF e).k, .slice (fitA e a).KA (fitF e).K.length (fitA e a).kc, .slice (fitA e a).VA (fitF e).V.length (fitA e a).vc]) ∧ Below w.heap.size w w' := by
  subst hn hm
  have nw : ∀ (w : World) (o : Obj), Below w.heap.size w (w.alloc o) := fun w o => below_alloc1 (Below.refl _ _) (Nat.le_refl _) o
  have T0 := Lib.hid ((Trio.fresh w w.heap.size rfl (.int .u8 e.k) (.slice a.KA e.K.length a.kc) (.slice a.VA e.V.length a.vc) 26).new (nw _ (.cells #[.int .u8 0, .slice none 0 0, .slice none 0 0] 26)))
  have S0 := Lib.hid (Trio.fresh (w.alloc (.cells #[.int .u8 e.k, .slice a.KA e.K.length a.kc, .slice a.VA e.V.length a.vc] 26)) (w.heap.size + 1) (asz _ _) (.int .u8 0) (.slice none 0 0) (.slice none 0 0) 26)
  have B0 := Lib.hid (belowA (nw w (.cells #[.int .u8 e.k, .slice a.KA e.K.length a.kc, .slice a.VA e.V.length a.vc] 26)) (.cells #[.int .u8 0, .slice none 0 0, .slice none 0 0] 26))
  have OK0 := Lib.hid (hok.new B0.out)
  have h64 := Lib.hid (show (64 : Int) = ((64 : Nat) : Int) from rfl)
  have h256 := Lib.hid (show (256 : Int) = ((256 : Nat) : Int) from rfl)
  clear nw
  by_cases hk : e.k % 2 = 0
  · have hkb : (((e.k : Int) % 2) == 0) = true := by rw [beq_iff_eq]; omega
    have e1 : fitF e = ⟨2, e.K.take 64, []⟩ := by unfold fitF; rw [if_pos hk]
    have e2 : fitA e a = ⟨a.KA, a.kc, none, 0⟩ := by unfold fitA; rw [if_pos hk]
    rw [e1, e2]
    obtain ⟨N, hN⟩ : ∃ N, N = (e.K.take 64).length := ⟨_, rfl⟩
    simp only [← hN]
    have HN := Lib.hid hN
    have x0 := T0.out.c0
    have x1 := T0.out.c1
    have s0 := S0.out.c0
    have s1 := S0.out.c1
    have s2 := S0.out.c2
    have f0 := S0.out.fz 0
    have f1 := S0.out.fz 1
    have f2 := S0.out.fz 2
    clear e1 e2 hk hN
    go_enter Try.func38, Try.ntmps38
    go_wp2_with (first
      | (go_at_call 86; (with_reducible refine (topshortN a.KA e.K _ a.kc 64 64 h64.out _ OK0.out.K rfl (by omega) N HN.out).mono ?_); rintro r1 w1 ⟨rfl, rfl⟩))
    have FX := Trio.fresh (w.alloc (.cells #[.int .u8 e.k, .slice a.KA e.K.length a.kc, .slice a.VA e.V.length a.vc] 26)) (w.heap.size + 1) (asz _ _) (.int .u8 2) (.slice a.KA N a.kc) (.slice none 0 0) 26
    exact bodyPost_ret (results_en rfl _ _ (w.heap.size + 1) _ _ _ rfl FX.c0 FX.c1 FX.c2) rfl ⟨rfl, belowA (below_alloc1 (Below.refl _ _) (Nat.le_refl _) (.cells #[.int .u8 e.k, .slice a.KA e.K.length a.kc, .slice a.VA e.V.length a.vc] 26)) _⟩
  · have hkb : (((e.k : Int) % 2) == 0) = false := by rw [beq_eq_false_iff_ne]; omega
    have e1 : fitF e = ⟨1, e.K.take 64, e.V.take 256⟩ := by unfold fitF; rw [if_neg hk]
    have e2 : fitA e a = ⟨a.KA, a.kc, a.VA, a.vc⟩ := by unfold fitA; rw [if_neg hk]
    rw [e1, e2]
    obtain ⟨N, hN⟩ : ∃ N, N = (e.K.take 64).length := ⟨_, rfl⟩
    obtain ⟨M, hM⟩ : ∃ M, M = (e.V.take 256).length := ⟨_, rfl⟩
    simp only [← hN, ← hM]
    have HN := Lib.hid hN
    have HM := Lib.hid hM
    have x0 := T0.out.c0
    have x1 := T0.out.c1
    have x2 := T0.out.c2
    have s0 := S0.out.c0
    have s1 := S0.out.c1
    have s2 := S0.out.c2
    have f0 := S0.out.fz 0
    have f1 := S0.out.fz 1
    have f2 := S0.out.fz 2
    clear e1 e2 hk hN hM
    go_enter Try.func38, Try.ntmps38
    go_wp2
    go_region_held3 (fun w' => w'.cell? ⟨w.heap.size, 1, none⟩ = some (.slice a.KA e.K.length a.kc) ∧ w'.cell? ⟨w.heap.size, 2, none⟩ = some (.slice a.VA e.V.length a.vc)) (go_keep) (first
      | (go_at_call 86; (with_reducible refine (topshortN a.KA e.K _ a.kc 64 64 h64.out _ OK0.out.K.drewE rfl (by omega) N HN.out).mono ?_); rintro r1 w1 ⟨rfl, rfl⟩)
      | (go_at_call 86; (with_reducible refine (topshortN a.VA e.V _ a.vc 256 256 h256.out _ OK0.out.V.drewE rfl (by omega) M HM.out).mono ?_); rintro r1 w1 ⟨rfl, rfl⟩))
    all_goals
      go_wp2
      have FX := (Trio.fresh (w.alloc (.cells #[.int .u8 e.k, .slice a.KA e.K.length a.kc, .slice a.VA e.V.length a.vc] 26)) (w.heap.size + 1) (asz _ _) (.int .u8 1) (.slice a.KA N a.kc) (.slice a.VA M a.vc) 26).drew
      exact bodyPost_ret (results_en rfl _ _ (w.heap.size + 1) _ _ _ rfl FX.c0 FX.c1 FX.c2) rfl ⟨rfl, (belowA (below_alloc1 (Below.refl _ _) (Nat.le_refl _) (.cells #[.int .u8 e.k, .slice a.KA e.K.length a.kc, .slice a.VA e.V.length a.vc] 26)) _).drew⟩
theorem padL_set (k j : Nat) (d : List UInt8) (hd : d.length = 32) (hk : k ≤ j) (hj : j < 32) : (d.take k ++ (List.replicate (j - k) 0 ++ d.drop j)).set j 0 = d.take k ++ (List.replicate (j + 1 - k) 0 ++ d.drop (j + 1)) := by
  rw [List.set_append_right _ _ (by rw [List.length_take]; omega), List.length_take, List.set_append_right _ _ (by rw [List.length_replicate]; omega), List.length_replicate, show j - min k d.length - (j - k) = 0 by omega, List.drop_eq_getElem_cons (show j < d.length by omega), List.set_cons_zero, show j + 1 - k = (j - k) + 1 by omega, List.replicate_succ']
  simp
set_option maxRecDepth 100000 in
theorem topcut_calls (k : Nat) (hk : k ≤ 32) (d : List UInt8) (hd : d.length = 32) (w : World) : Calls Try.prog 42 #[.int .i64 k, .agg (rB d)] w fun r w' => r = .returned (.agg (rB (padL k d))) ∧ Below w.heap.size w w' := by
  obtain ⟨L, hL⟩ : ∃ L, L = encB d := ⟨_, rfl⟩
  rw [show rB d = L.toArray by rw [hL]; rfl]
  have hc : L.length = 32 := by rw [hL, encB_length, hd]
  have HL := Lib.hid hL
  have HD := Lib.hid hd
  have nw : ∀ (w : World) (o : Obj), Below w.heap.size w (w.alloc o) := fun w o => below_alloc1 (Below.refl _ _) (Nat.le_refl _) o
  have R0 := Lib.hid ((Row.fresh w w.heap.size rfl 61 L _ rfl).new (nw _ (.cells (encB (List.replicate 32 0)).toArray 61)))
  have Q0 := Lib.hid (Row.fresh (w.alloc (.cells L.toArray 61)) (w.heap.size + 1) (szA _ _).symm 61 (encB (List.replicate 32 0)) _ rfl)
  have B0 := Lib.hid (belowA (nw w (.cells L.toArray 61)) (.cells (encB (List.replicate 32 0)).toArray 61))
  clear hL hd nw
  go_enter Try.func42, Try.ntmps42
  go_wp2
  go_loopw [5] (fun iv wr => ∃ j : Nat, k ≤ j ∧ j ≤ 32 ∧ iv = .int .i64 j ∧ Row wr w.heap.size 61 (encB (d.take k ++ (List.replicate (j - k) 0 ++ d.drop j))) ∧ Row wr (w.heap.size + 1) 61 (encB (List.replicate 32 0)) ∧ Below w.heap.size w wr) (fun iv _ => 32 - (intOf iv).toNat)
  case atStart => exact ⟨k, Nat.le_refl _, hk, rfl, by rw [Nat.sub_self, List.replicate_zero, List.nil_append, List.take_append_drop, ← HL.out]; exact R0.out, Q0.out, B0.out⟩
  case round =>
    obtain ⟨j, hj0, hj, rfl, RJ, QJ, BJ⟩ := hrel
    by_cases hlt : j < 32
    · have hlen : (d.take k ++ (List.replicate (j - k) 0 ++ d.drop j)).length = 32 := by rw [List.length_append, List.length_append, List.length_take, List.length_replicate, List.length_drop, HD.out]; omega
      have c0 := (RJ.cell j).trans (List.getElem?_eq_getElem (show j < (encB (d.take k ++ (List.replicate (j - k) 0 ++ d.drop j))).length by rw [encB_length, hlen]; exact hlt))
      have f0 := RJ.fz j
      generalize (encB (d.take k ++ (List.replicate (j - k) 0 ++ d.drop j)))[j]'(by rw [encB_length, hlen]; exact hlt) = u at c0
      have RS := Lib.hid (RJ.set j (.int .u8 0) (encB (d.take k ++ (List.replicate (j + 1 - k) 0 ++ d.drop (j + 1)))) (by rw [← padL_set k j d HD.out hj0 hlt]; unfold encB; rw [List.map_set]; rfl))
      clear RJ hlen
      go_wp2
      go_roundw
      case rel => exact ⟨j + 1, by omega, by omega, by go_num, RS.out, QJ.grown (set_grownT _ _ _ _) (by omega), BJ.setCell (Nat.le_refl _) _⟩
      case measure => simp [intOf]; omega
    · obtain rfl : j = 32 := by omega
      have hp : d.take k ++ (List.replicate (32 - k) 0 ++ d.drop 32) = padL k d := by rw [List.drop_eq_nil_of_le (by rw [HD.out]; exact Nat.le_refl _), List.append_nil]; rfl
      rw [hp] at RJ
      have HP := Lib.hid (padL_length k d hk HD.out)
      clear hlt hp
      go_wp2_with (first
        | (refine wp_op_is (.load 61 (.tmp 3)) rfl ?_; refine wp_load_part rfl 61 _ rfl _ rfl (rB (padL k d)) (RJ.part [] [] (encB (padL k d)) (by simp) 0 rfl _ rfl) _ Try.underlying61 rfl (sizeDT _ HP.out) ?_)
        | (refine wp_op_is (.store 61 (.tmp 4) (.tmp 13)) rfl ?_; refine wp_store_part rfl 61 _ _ rfl (w.heap.size + 1) 0 _ rfl rfl _ _ QJ.out (sizeDT _ HP.out) (by rw [rB_size, HP.out, List.size_toArray, encB_length, List.length_replicate]; exact Nat.le_refl 32) (rB_one _) ?_))
      rw [splice_all _ _ (by rw [encB_length, List.length_replicate]; simp [rB, encB_length, HP.out])]
      exact bodyPost_ret (v := .agg (rB (padL k d))) (results_cell_row rfl _ _ (w.heap.size + 1) 61 _ (0, 0) _ rfl (setRow_heap _ _ _ _ _ _ QJ.out) Try.underlying61 rfl (sizeDT _ HP.out)) rfl ⟨rfl, below_setRow BJ (Nat.le_succ _) _⟩
def strOf (p : List UInt8) : ByteArray := ⟨p.toArray⟩
theorem strOf_beq (p q : List UInt8) : ((strOf p).toList == (strOf q).toList) = (p == q) := by
  rw [ByteArray.toList_eq, ByteArray.toList_eq]; rfl
theorem run_str (w : World) (A : Option Addr) (n c : Nat) (p : List UInt8) (hp : RB w A c p) (hn : n = p.length) : (convert 24 9 (.slice A n c)).run Try.prog w = .ok (.string (strOf p)) w := by
  subst hn
  cases A with
  | none =>
    obtain ⟨rfl, rfl⟩ := hp.nil rfl
    exact run_convert_bytes_nil w 24 5 Try.underlying24 Try.underlying5 0 0 9 Try.underlying9
  | some a =>
    have hl : (loadCells a p.length).run Try.prog w = .ok ((p.map uB).map (Value.int .u8)).toArray w := by
      have := run_loadCells_list (P := Try.prog) w a (encB p) (fun j v hj => by
        have hjl : j < p.length := by
          rcases Nat.lt_or_ge j p.length with h | h
          · exact h
          · simp [List.getElem?_eq_none (show (encB p).length ≤ j by rw [encB_length]; exact h)] at hj
        obtain ⟨a', e, hc⟩ := hp.at_ j hjl
        obtain rfl := Option.some.inj e
        rw [hc]
        simp [encB, hjl] at hj
        rw [← hj])
      rw [encB_length] at this
      rw [this, List.map_map]
      rfl
    rw [run_convert_bytes_string w 24 9 5 _ p.length c Try.underlying24 Try.underlying5 Try.underlying9, run_bytesToString w _ p.length c (p.map uB) hl, foldl_push_bytes]
    congr 2
    apply ByteArray.ext
    apply Array.toList_inj.1
    have hid : (fun n : Int => UInt8.ofNat n.toNat) ∘ uB = id := by
      funext b
      simp [uB]
    simp [strOf, ByteArray.empty, ByteArray.emptyWithCapacity, hid]
    rfl
theorem topsame_calls (A B : Option Addr) (p q : List UInt8) (n m c d : Nat) (w : World) (hp : RB w A c p) (hq : RB w B d q) (hn : n = p.length) (hm : m = q.length) :
    Calls Try.prog 43 #[.slice A n c, .slice B m d] w fun e w' => e = .returned (.bool (p == q)) ∧ w = w' := by
  have h1 := run_str w A n c p hp hn
  have h2 := run_str w B m d q hq hm
  have hs := Lib.hid (strOf_beq p q)
  clear hn hm
  generalize strOf p = x at *
  generalize strOf q = y at *
  go_enter Try.func43, Try.ntmps43
  go_wp2
  go_ret
  exact ⟨ret_bool hs.out, rfl⟩
theorem topsameN (A B : Option Addr) (p : List UInt8) (n m c d : Nat) (w : World) (hp : RB w A c p) (hq : RB w B d p) (hn : n = p.length) (hm : m = p.length) :
    Calls Try.prog 43 #[.slice A n c, .slice B m d] w fun e w' => e = .returned (.bool true) ∧ w = w' := by
  have := topsame_calls A B p p n m c d w hp hq hn hm
  rw [beq_self_eq_true] at this; exact this
set_option maxRecDepth 100000 in
theorem topsameE_calls (e : En) (a d : EnA) (n m n' m' : Nat) (hn : n = e.K.length) (hm : m = e.V.length) (hn' : n' = e.K.length) (hm' : m' = e.V.length) (w : World) (ha : EnOk w e a) (hd : EnOk w e d) :
    Calls Try.prog 39 #[.agg #[.int .u8 e.k, .slice a.KA n a.kc, .slice a.VA m a.vc], .agg #[.int .u8 e.k, .slice d.KA n' d.kc, .slice d.VA m' d.vc]] w fun r w' => r = .returned (.bool true) ∧ Below w.heap.size w w' := by
  subst hn; subst hm; subst hn'; subst hm'
  have nw : ∀ (w : World) (o : Obj), Below w.heap.size w (w.alloc o) := fun w o => below_alloc1 (Below.refl _ _) (Nat.le_refl _) o
  have B0 := Lib.hid (belowA (nw w (.cells #[.int .u8 e.k, .slice a.KA e.K.length a.kc, .slice a.VA e.V.length a.vc] 26)) (.cells #[.int .u8 e.k, .slice d.KA e.K.length d.kc, .slice d.VA e.V.length d.vc] 26))
  have A0 := Lib.hid (ha.new B0.out)
  have D0 := Lib.hid (hd.new B0.out)
  have hee : ((e.k : Int) == e.k) = true := beq_self_eq_true _
  have HK := Lib.hid (show (e.K == e.K) = true from beq_self_eq_true _)
  have HV := Lib.hid (show (e.V == e.V) = true from beq_self_eq_true _)
  clear nw
  go_enter Try.func39, Try.ntmps39
  go_wp2_with (first
    | (go_at_call 43; (with_reducible refine (topsameN a.KA d.KA e.K _ _ a.kc d.kc _ A0.out.K D0.out.K rfl rfl).mono ?_); rintro r1 w1 ⟨rfl, rfl⟩)
    | (go_at_call 43; (with_reducible refine (topsameN a.VA d.VA e.V _ _ a.vc d.vc _ A0.out.V D0.out.V rfl rfl).mono ?_); rintro r2 w2 ⟨rfl, rfl⟩))
  go_ret
  exact ⟨rfl, B0.out⟩
end Go.Proofs.Ytelecdncdaepnaa
