/- The walk of entry.EncodeBatch. -/
import Derived.Test.YtelecdncdaepnaaBatchWalk
namespace Go.Proofs.Ytelecdncdaepnaa
open Go.RowKit
open WireMath (numS beN rawS blobS uvarS grpL uvarL wideL)

def leastF (a b : Nat) : Nat := if a = 0 ∨ (b ≠ 0 ∧ b < a) then b else a
theorem least_calls (a b : Nat) (w : World) : Calls Try.prog 47 #[.int .i64 a, .int .i64 b] w fun e w' => e = .returned (.int .i64 (leastF a b)) ∧ w = w' := by
  by_cases ha : a = 0
  · have h1 : ((a : Int) == 0) = true := by rw [beq_iff_eq]; omega
    have HF := Lib.hid (show b = leastF a b by unfold leastF; rw [if_pos (.inl ha)])
    clear ha
    go_enter Try.func47, Try.ntmps47
    go_wp2
    go_ret
    exact ⟨ret_int (by rw [← HF.out]), rfl⟩
  · have h1 : ((a : Int) == 0) = false := by rw [beq_eq_false_iff_ne]; omega
    by_cases hb : b = 0
    · have h2 : ((b : Int) != 0) = false := by rw [bne_eq_false_iff_eq]; omega
      have HF := Lib.hid (show a = leastF a b by unfold leastF; rw [if_neg (by omega)])
      clear ha hb
      go_enter Try.func47, Try.ntmps47
      go_wp2
      go_ret
      exact ⟨ret_int (by rw [← HF.out]), rfl⟩
    · have h2 : ((b : Int) != 0) = true := by rw [bne_iff_ne]; omega
      by_cases hlt : b < a
      · have HF := Lib.hid (show b = leastF a b by unfold leastF; rw [if_pos (.inr ⟨hb, hlt⟩)])
        clear ha hb
        go_enter Try.func47, Try.ntmps47
        go_wp2
        go_ret
        exact ⟨ret_int (by rw [← HF.out]), rfl⟩
      · have HF := Lib.hid (show a = leastF a b by unfold leastF; rw [if_neg (by omega)])
        clear ha hb
        go_enter Try.func47, Try.ntmps47
        go_wp2
        go_ret
        exact ⟨ret_int (by rw [← HF.out]), rfl⟩
theorem leastN (a b : Nat) (X Y : Int) (hX : X = a) (hY : Y = b) (r : Nat) (hr : leastF a b = r) (w : World) : Calls Try.prog 47 #[.int .i64 X, .int .i64 Y] w fun e w' => e = .returned (.int .i64 r) ∧ w = w' := by
  subst hX; subst hY; subst hr; exact least_calls a b w
/-- the error of a batch -/
def err0 (f n : Nat) : Nat := if n = 0 ∨ 18446744073709551616 ≤ f + n then leastF (if 64 < n then 2 else 0) 3 else if 64 < n then 2 else 0
def errB (f n : Nat) (l : List En) : Nat := l.foldl (fun e x => leastF e (chkF x)) (err0 f n)
def encBL (f : Nat) (l : List En) : List UInt8 := uvarL f ++ (uvarL l.length ++ l.flatMap encL)
def encBF (f : Nat) (l : List En) : List UInt8 × Nat := if errB f l.length l = 0 then (encBL f l, 0) else ([], errB f l.length l)
theorem leastF_zero (a b : Nat) (h : leastF a b = 0) : a = 0 ∧ b = 0 := by
  unfold leastF at h
  split at h <;> omega
theorem fold_zero (l : List En) : ∀ e, l.foldl (fun e x => leastF e (chkF x)) e = 0 → e = 0 ∧ ∀ x ∈ l, chkF x = 0 := by
  induction l with
  | nil => intro e h; exact ⟨h, fun x hx => by simp at hx⟩
  | cons y l ih =>
    intro e h
    obtain ⟨h1, h2⟩ := ih _ h
    obtain ⟨h3, h4⟩ := leastF_zero _ _ h1
    refine ⟨h3, fun x hx => ?_⟩
    rcases List.mem_cons.1 hx with rfl | hx
    · exact h4
    · exact h2 x hx
theorem err0_zero (f n : Nat) (h : err0 f n = 0) : n ≠ 0 ∧ f + n < 18446744073709551616 ∧ n ≤ 64 := by
  unfold err0 at h
  split at h
  · have := (leastF_zero _ _ h).2; omega
  · split at h <;> omega
theorem ensOf_take (es : List EnX) (j : Nat) (e : En) (x : EnA) (h : es[j]? = some (e, x)) : ensOf (es.take (j + 1)) = ensOf (es.take j) ++ [e] := by
  obtain ⟨hj, hx⟩ := List.getElem?_eq_some_iff.1 h
  unfold ensOf
  rw [List.take_succ_eq_append_getElem hj, List.map_append, hx]; rfl
theorem flat_le (l : List En) (h : ∀ x ∈ l, chkF x = 0) : (l.flatMap encL).length ≤ 341 * l.length := by
  induction l with
  | nil => simp
  | cons y l ih =>
    have h1 := chk_small y (h y (List.mem_cons_self ..))
    have h2 := encL_length y
    have h3 := ih fun x hx => h x (List.mem_cons_of_mem _ hx)
    simp only [List.flatMap_cons, List.length_append, List.length_cons]
    omega

set_option maxHeartbeats 1000000 in
set_option maxRecDepth 100000 in
theorem encB_calls (f : Nat) (V : Int) (hV : V = f) (hf : f ≤ 18446744073709551615) (A : Option Addr) (n c : Nat) (es : List EnX) (w : World) (h : Ents w A es) (hn : n = es.length) (hl : n ≤ 9223372036854775807) (q : List UInt8) (eE : Nat) (hq : encBF f (ensOf es) = (q, eE)) :
    Calls Try.prog 16 #[.agg #[.int .u64 V, .slice A n c]] w fun r w' => ∃ A' c', r = .returned (.tuple #[.slice A' q.length c', .int .i64 eE]) ∧ NewB w w' (.slice A' q.length c') q := by
  subst hV
  have hen : (ensOf es).length = n := by rw [hn]; simp [ensOf]
  have HB := Lib.hid (below_alloc1 (Below.refl w.heap.size w) (Nat.le_refl _) (.cells #[.int .u64 f, .slice A n c] 34))
  have HT := Lib.hid (Duo.fresh w w.heap.size rfl (.int .u64 f) (.slice A n c) 34)
  have HQ := Lib.hid hq
  have HEN := Lib.hid hen
  have HN := Lib.hid hn
  have h3 := Lib.hid (show (3 : Int) = ((3 : Nat) : Int) from rfl)
  have h2 := Lib.hid (show (2 : Int) = ((2 : Nat) : Int) from rfl)
  have h0 := Lib.hid (show (0 : Int) = ((0 : Nat) : Int) from rfl)
  clear hq hen hn
  have hcase : (64 < n ∧ decide ((64 : Int) < (n : Int)) = true) ∨ (¬ 64 < n ∧ decide ((64 : Int) < (n : Int)) = false) := by
    by_cases h : 64 < n
    · exact .inl ⟨h, by rw [decide_eq_true_eq]; omega⟩
    · exact .inr ⟨h, by rw [decide_eq_false_iff_not]; omega⟩
  have hcase2 : (n = 0 ∧ ((n : Int) == 0) = true) ∨ (n ≠ 0 ∧ ((n : Int) == 0) = false ∧ f + n < 18446744073709551616) ∨ (n ≠ 0 ∧ ((n : Int) == 0) = false ∧ 18446744073709551616 ≤ f + n) := by
    by_cases h : n = 0
    · exact .inl ⟨h, by rw [beq_iff_eq]; omega⟩
    · by_cases h' : f + n < 18446744073709551616
      · exact .inr (.inl ⟨h, by rw [beq_eq_false_iff_ne]; omega, h'⟩)
      · exact .inr (.inr ⟨h, by rw [beq_eq_false_iff_ne]; omega, by omega⟩)
  obtain ⟨e0, he0⟩ : ∃ e0, e0 = err0 f n := ⟨_, rfl⟩
  have HE0 := Lib.hid he0
  obtain ⟨e64, he64⟩ : ∃ e64 : Nat, e64 = if 64 < n then 2 else 0 := ⟨_, rfl⟩
  have hE : (64 < n → e64 = 2) ∧ (¬ 64 < n → e64 = 0) ∧ (n = 0 ∨ 18446744073709551616 ≤ f + n → e0 = leastF e64 3) ∧ (¬ (n = 0 ∨ 18446744073709551616 ≤ f + n) → e0 = e64) := by
    refine ⟨fun h => by rw [he64, if_pos h], fun h => by rw [he64, if_neg h], fun h => ?_, fun h => ?_⟩
    · rw [he0, he64]; unfold err0; rw [if_pos h]
    · rw [he0, he64]; unfold err0; rw [if_neg h]
  clear he0 he64
  obtain ⟨X, hX⟩ : ∃ X : Nat, X = errB f n (ensOf es) := ⟨_, rfl⟩
  have HX := Lib.hid hX
  have HL := Lib.hid hl
  have hf9 : f ≤ 18446744073709551615 := hf
  clear hX
  rcases hcase with ⟨g1, b1⟩ | ⟨g1, b1⟩
  all_goals
    rcases hcase2 with ⟨g2, b2⟩ | ⟨g2, b2, g3⟩ | ⟨g2, b2, g3⟩
  all_goals
    first
      | (have e64' := hE.1 g1)
      | (have e64' := hE.2.1 g1)
    subst e64'
    first
      | (have H00 := Lib.hid (hE.2.2.1 (.inl g2)).symm; have HFB : Hid (decide (f + n < 18446744073709551616) = decide (f + n < 18446744073709551616)) := Lib.hid rfl)
      | (have H00 := Lib.hid (hE.2.2.2 (by omega)).symm; have HFB := Lib.hid (show decide (f + n < 18446744073709551616) = true by rw [decide_eq_true_eq]; omega))
      | (have H00 := Lib.hid (hE.2.2.1 (.inr g3)).symm; have HFB := Lib.hid (show decide (f + n < 18446744073709551616) = false by rw [decide_eq_false_iff_not]; omega))
    clear hE g1 g2
    try clear g3
    go_enter Try.func16, Try.ntmps16
    go_wp2_with (first
      | (go_at_call 46; go_loud (with_reducible refine (efits_calls f n _ rfl hf9 HL.out _ _ HFB.out).mono ?_); rintro r5 w5 ⟨rfl, rfl⟩)
      | (go_at_call 47; go_loud (with_reducible refine (leastN _ 3 _ _ (by first | exact h2.out | exact h0.out) h3.out e0 H00.out _).mono ?_); rintro r6 w6 ⟨rfl, rfl⟩))
    go_loopw [4, 6, 32] (fun ev _ iv wr => ∃ (j e : Nat), j ≤ n ∧ iv = .int .i64 j ∧ ev = .int .i64 e ∧ Hid (e = (ensOf (es.take j)).foldl (fun e x => leastF e (chkF x)) e0) ∧ Duo wr w.heap.size (.int .u64 f) (.slice A n c) ∧ Ents wr A es ∧ Below w.heap.size w wr) (fun _ _ iv _ => n - (intOf iv).toNat)
    case atStart => exact ⟨0, e0, Nat.zero_le _, rfl, by first | rfl | (congr 1; first | exact h2.out.trans (congrArg _ H00.out) | exact h0.out.trans (congrArg _ H00.out)), Lib.hid rfl, HT.out, h.new HB.out, HB.out⟩
    case round =>
      obtain ⟨j, e, hj, rfl, rfl, HEQ, HD, HES, HBB⟩ := hrel
      by_cases hlt : j < n
      · obtain ⟨a, o, x, rfl, ho, hmem, hok, k0, k1, k2⟩ := HES.at_ j (by rw [← HN.out]; exact hlt)
        obtain ⟨ch, hch⟩ : ∃ ch, ch = chkF o := ⟨_, rfl⟩
        obtain ⟨e9, he9⟩ : ∃ e9, e9 = leastF e ch := ⟨_, rfl⟩
        have HNX := Lib.hid (show e9 = (ensOf (es.take (j + 1))).foldl (fun e x => leastF e (chkF x)) e0 by rw [ensOf_take es j o x ho, List.foldl_append, ← HEQ.out, he9, hch]; rfl)
        have HCH := Lib.hid hch.symm
        have HE9 := Lib.hid he9.symm
        have HT5 := Lib.hid (Trio.fresh wr wr.heap.size rfl (.int .u8 o.k) (.slice x.KA o.K.length x.kc) (.slice x.VA o.V.length x.vc) 26)
        have HB5 := Lib.hid (belowA HBB (.cells #[.int .u8 o.k, .slice x.KA o.K.length x.kc, .slice x.VA o.V.length x.vc] 26))
        have hz5 := HT5.out.lt
        clear hch he9 ho HEQ
        go_wp2_with (first
          | (go_at_call 37; go_loud (with_reducible refine (checkN o x.KA x.VA o.K.length o.V.length x.kc x.vc _ rfl rfl ch (congrArg _ HCH.out)).mono ?_); rintro r7 w7 ⟨rfl, hb7⟩; have hb7' := Lib.hid hb7)
          | (go_at_call 47; go_loud (with_reducible refine (leastN e ch _ _ rfl rfl e9 HE9.out _).mono ?_); rintro r8 w8 ⟨rfl, rfl⟩))
        go_roundw
        case rel => exact ⟨j + 1, e9, by omega, by go_num, rfl, HNX.out, (HD.new (below_alloc1 (Below.refl _ _) (Nat.le_refl _) _)).new hb7'.out, (HES.new (below_alloc1 (Below.refl _ _) (Nat.le_refl _) _)).new hb7'.out, below_then HB5.out hb7'.out⟩
        case measure => simp [intOf]; omega
      · obtain rfl : j = n := by omega
        have hXe : e = X := by rw [HX.out, HEQ.out, List.take_of_length_le (Nat.le_of_eq HN.out.symm)]; unfold errB; rw [HE0.out]
        have HXE := Lib.hid hXe.symm
        clear hlt hXe HEQ
        have hz1 := HD.lt
        have d0 := HD.c0
        have d1 := HD.c1
        by_cases hz : e = 0
        · obtain ⟨nf, nn, n64⟩ := err0_zero f j (by rw [← HE0.out]; have hq := HX.out; rw [← HXE.out] at hz; rw [hq] at hz; unfold errB at hz; rw [HE0.out]; exact (fold_zero _ _ hz).1)
          have HCK : Hid (∀ x ∈ ensOf es, chkF x = 0) := Lib.hid (by have hq := HX.out; rw [← HXE.out] at hz; rw [hq] at hz; unfold errB at hz; exact (fold_zero _ _ hz).2)
          have H64 := Lib.hid n64
          subst hz
          have HW1 := Lib.hid (WrF.fresh wr wr.heap.size rfl 84)
          clear nf nn n64
          have hq := HQ.out
          unfold encBF at hq
          rw [HEN.out, ← HX.out, HXE.out, if_pos rfl] at hq
          injection hq with hq1 hq2
          subst hq2
          unfold encBL at hq1
          rw [HEN.out] at hq1
          have HQ1 := Lib.hid hq1
          have HUF := Lib.hid (WireMath.uvarL_length f)
          have HUN := Lib.hid (WireMath.uvarL_length j)
          have HU1 := Lib.hid (rfl : [] ++ uvarL f = [] ++ uvarL f)
          have HU2 := Lib.hid (rfl : ([] ++ uvarL f) ++ uvarL j = ([] ++ uvarL f) ++ uvarL j)
          have hbo := Lib.hid (show ∀ k, k = wr.heap.size → w.heap.size ≤ k from fun k hk => by have := HBB.size; omega)
          clear hq1
          generalize hp1 : [] ++ uvarL f = p1 at HU1 HU2
          generalize hp2 : p1 ++ uvarL j = p2 at HU2
          have hp1l : p1.length ≤ 10 := by rw [← hp1]; simp; exact HUF.out
          have hp2l : p2.length ≤ 20 := by rw [← hp2, List.length_append]; have := HUN.out; omega
          have HP1 := Lib.hid hp1
          have HP2 := Lib.hid hp2
          clear hp1 hp2
          go_wp2_with (first
            | (go_at_call 48; (with_reducible refine (uvarFF HW1.out p1 f f rfl HP1.out hf9 (by decide)).mono ?_); rintro r3 w3 ⟨F3, rfl, hw3, hs3⟩; have D3 := (HD.new (below_alloc1 (Below.refl _ _) (Nat.le_refl _) (.cells #[.slice none 0 0] 84))).stepE hs3 (fun e9 => by have e8 : w.heap.size = wr.heap.size := e9; omega); have hz3 := D3.lt; have m0 := D3.c0; have m1 := D3.c1; have B3 := Lib.hid ((belowA HBB (.cells #[.slice none 0 0] 84)).trans (hs3.below (B := w.heap.size) (belowA HBB (.cells #[.slice none 0 0] 84)).size hbo.out)); have z33 : wr.heap.size ≤ w3.heap.size := by { have := hs3.size; rw [asz] at this; omega }; have G3 := Lib.hid (hs3.lo (B := wr.heap.size) (fun k hk => Nat.le_of_eq (Eq.symm hk)) (by rw [asz]; omega)))
            | (go_at_call 48; (with_reducible refine (uvarFF hw3 p2 j j rfl HP2.out (by have := HL.out; omega) (by omega)).mono ?_); rintro r4 w4 ⟨F4, rfl, hw4, hs4⟩; have D4 := D3.stepE hs4 (fun e9 => by have := G3.out _ e9; omega); have hz4 := D4.lt; have n0 := D4.c0; have n1 := D4.c1; have B4 := Lib.hid (B3.out.trans (hs4.below (B := w.heap.size) B3.out.size (fun k hk => by have := G3.out _ hk; omega))); have G4 := Lib.hid (hs4.lo (B := wr.heap.size) G3.out z33)))
          have hl2 : (ensOf (es.take 0)).flatMap encL = [] := by simp [ensOf]
          have hw4' : WrF w4 F4 wr.heap.size (p2 ++ (ensOf (es.take 0)).flatMap encL) := by rw [hl2, List.append_nil]; exact hw4
          have HC4 : Hid (∀ i, ((ensOf (es.take i)).flatMap encL).length ≤ 21824) := Lib.hid (fun i => by
            have h5 := flat_le (ensOf (es.take i)) (fun x hx => HCK.out x (by unfold ensOf at hx ⊢; rw [List.mem_map] at hx ⊢; obtain ⟨y, hy, hz⟩ := hx; exact ⟨y, List.mem_of_mem_take hy, hz⟩))
            have h6 : (ensOf (es.take i)).length ≤ 64 := by have := HN.out; have := H64.out; simp [ensOf]; omega
            omega)
          have HCS : Hid (∀ o x, (o, x) ∈ es → o.K.length ≤ 64 ∧ o.V.length ≤ 256) := Lib.hid (fun o x hx => by have := chk_small o (HCK.out o (by unfold ensOf; rw [List.mem_map]; exact ⟨(o, x), hx, rfl⟩)); exact ⟨this.1, this.2.1⟩)
          clear hl2 hw4
          obtain ⟨wo, hwo⟩ : ∃ wo : World, wo = wr := ⟨_, rfl⟩
          subst hwo
          go_loopw [9, 55] (fun _ iv wr => ∃ (i : Nat) (G : Nat → Prop), i ≤ j ∧ iv = .int .i64 i ∧ WrF wr G wo.heap.size (p2 ++ (ensOf (es.take i)).flatMap encL) ∧ (∀ k, G k → w.heap.size ≤ k) ∧ Below w.heap.size w wr) (fun _ iv _ => j - (intOf iv).toNat)
          case atStart => exact ⟨0, F4, Nat.zero_le _, rfl, hw4', fun k hk => by have := G4.out _ hk; omega, B4.out⟩
          case round =>
            obtain ⟨i, G, hi, rfl, HW, HG, HBI⟩ := hrel
            by_cases hlt : i < j
            · obtain ⟨a, o, x, rfl, ho, hmem, hok, k0, k1, k2⟩ := (h.new HBI).at_ i (by rw [← HN.out]; exact hlt)
              have HQ9 := Lib.hid (show (p2 ++ (ensOf (es.take i)).flatMap encL) ++ encL o = p2 ++ (ensOf (es.take (i + 1))).flatMap encL by rw [ensOf_take es i o x ho, List.flatMap_append]; simp)
              have hc4 := HC4.out i
              obtain ⟨hc5, hc6⟩ := HCS.out o x hmem
              have HL9 : Hid ((p2 ++ (ensOf (es.take i)).flatMap encL).length + o.K.length + o.V.length + 40 ≤ 140737488355328) := Lib.hid (by rw [List.length_append]; omega)
              have HFK : Hid (Free G x.KA o.K) := Lib.hid (Free.of_old (h.ok _ hmem).K.old HG)
              have HFV : Hid (Free G x.VA o.V) := Lib.hid (Free.of_old (h.ok _ hmem).V.old HG)
              have HGL := Lib.hid HW.lt
              clear hc4 hc5 hc6 ho
              go_wp2_with (go_at_call 49; go_loud (with_reducible refine (elay_calls (HW.new (below_alloc1 (Below.refl _ _) (Nat.le_refl _) _)) o x o.K.length o.V.length rfl rfl (hok.new (below_alloc1 (Below.refl _ _) (Nat.le_refl _) _)) HFK.out HFV.out _ HQ9.out HL9.out).mono ?_); rintro e5 w5 ⟨G5, rfl, hw5, hs5⟩)
              go_roundw
              case rel => exact ⟨i + 1, G5, by omega, by go_num, hw5, hs5.lo HG (Nat.le_trans HBI.size (by rw [asz]; omega)), (belowA HBI _).trans (hs5.below (B := w.heap.size) (Nat.le_trans HBI.size (by rw [asz]; omega)) HG)⟩
              case measure => simp [intOf]; omega
            · obtain rfl : i = j := by omega
              rw [List.take_of_length_le (Nat.le_of_eq HN.out.symm)] at HW
              have hqq : p2 ++ (ensOf es).flatMap encL = q := by rw [← HQ1.out, ← HP2.out, ← HP1.out]; simp
              have hql : q.length ≤ 140737488355328 := by have := HC4.out i; rw [List.take_of_length_le (Nat.le_of_eq HN.out.symm)] at this; rw [← hqq, List.length_append]; omega
              rw [hqq] at HW
              clear hlt hqq hw4' hw3
              go_wp2_with (go_at_call 50; go_loud (with_reducible refine (bytesF HW q.length rfl hql).mono ?_); rintro e3 w3 ⟨A3, c3, rfl, hn3⟩)
              go_ret2
              exact ⟨A3, c3, rfl, hn3.own.mono HBI.size, below_then HBI hn3.below⟩
        · have hb9 : ((e : Int) != 0) = true := by rw [bne_iff_ne]; omega
          have HZ := Lib.hid hz
          clear hz
          go_wp2
          go_ret2
          have hq := HQ.out
          unfold encBF at hq
          rw [HEN.out, ← HX.out, HXE.out, if_neg HZ.out] at hq
          injection hq with hq1 hq2
          subst hq1; subst hq2
          exact ⟨none, 0, rfl, OB.nil _ _ _, HBB⟩
end Go.Proofs.Ytelecdncdaepnaa
