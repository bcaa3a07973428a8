import Derived.Test.YtlcbjjgmkllceaaQWireTake
/- The laws' own calls of layer 1 on the document's readers: taken, tells. -/
namespace Go.Proofs.Ytlcbjjgmkllceaa
open Go.RowKit
open WireMath (numS beN rawS blobS uvarS grpL grpTo uvarL)

theorem results_tk {fn : Func} {u v p : Tmp} (h : fn.results = #[.tmp u, .tmp v, .cell p 86]) (tmps : Array Value) (w : World) (b : Nat) (x y z : Value) (hp : tmps.getD p undef = .pointer (some ⟨b, 0, none⟩)) (ht : Trio w b x y z) :
    (results fn tmps).run Try.prog w = .ok (.tuple #[tmps.getD u undef, tmps.getD v undef, .agg #[x, y, z]]) w := by
  have hp' : tmps[p]?.getD undef = .pointer (some ⟨b, 0, none⟩) := by simpa using hp
  have hl := run_loadVar_mid (P := Try.prog) w b 0 86 [x, y, z] _ (fun j v hj => by
    match j, hj with
    | 0, hj => simp at hj; subst hj; simpa using ht.c0
    | 1, hj => simp at hj; subst hj; simpa using ht.c1
    | 2, hj => simp at hj; subst hj; simpa using ht.c2
    | j + 3, hj => simp at hj) Try.underlying86 rfl (by kernel_rfl)
  simp [results, h, hp', asAddr, hl]

theorem Trio.alloc {w : World} {b : Nat} {x y z : Value} (h : Trio w b x y z) (o : Obj) : Trio (w.alloc o) b x y z := h.new (below_alloc1 (Below.refl _ _) (Nat.le_refl _) o)
theorem cell_far {w : World} {g j b i : Nat} {v u : Value} (hne : b ≠ g) (h : w.cell? ⟨b, i, none⟩ = some u) : (w.setCell ⟨g, j, none⟩ v).cell? ⟨b, i, none⟩ = some u := (World.cell?_setCell_other _ _ _ _ (by intro e; injection e; omega)).trans h
theorem RB.drew1 {w : World} {A : Option Addr} {c : Nat} {p : List UInt8} (h : RB w A c p) : RB w.drew A c p := h.new (below_drew _ _)
set_option maxHeartbeats 400000 in
set_option maxRecDepth 100000 in
theorem taken_calls (A : Option Addr) (P : List UInt8) (c at_ e : Nat) (T E : Int) (hT : T = at_) (hE : E = e) (k : Int) (v : Nat) (n : Int) (B : Option Addr) (m d l : Nat) (hll : l = P.length) (w : World) (hp : RB w A c P) (hl : P.length ≤ 140737488355328) (hat : at_ ≤ P.length) (hn : n ≤ 9223372036854775807) (t : Took) (ht : takeS P at_ e k n = t) (V T2 E2 : Int) (hV : V = t.v) (hT2 : T2 = t.at_) (hE2 : E2 = t.e) (N : Nat) (hN : N = t.q.length) :
    Calls Try.prog 46 #[.agg #[.slice A l c, .int .i64 T, .int .i64 E], .agg #[.int .i64 k, .int .u64 v, .int .i64 n, .slice B m d]] w fun e' w' => ∃ A' c', e' = .returned (.tuple #[.int .u64 V, .slice A' N c', .agg #[.slice A P.length c, .int .i64 T2, .int .i64 E2]]) ∧ NewB w w' (.slice A' N c') t.q := by
  subst hll; subst hT; subst hE; subst hV; subst hT2; subst hE2; subst hN
  have HB1 := Lib.hid (below_alloc1 (Below.refl w.heap.size w) (Nat.le_refl _) (.cells #[.slice A P.length c, .int .i64 at_, .int .i64 e] 86))
  have HB2 := Lib.hid (HB1.out.alloc HB1.out.size (.cells #[.int .i64 k, .int .u64 v, .int .i64 n, .slice B m d] 79))
  have HB3 := Lib.hid (HB2.out.alloc HB2.out.size (.cells #[.slice none 0 0, .int .i64 0, .int .i64 0] 86))
  have hwd := Lib.hid (fun w' => width_calls k w')
  by_cases hw : 0 < widthF k
  · have hx : takeS P at_ e k n = ⟨(numS P at_ e (widthF k)).1, [], (numS P at_ e (widthF k)).2.1, (numS P at_ e (widthF k)).2.2⟩ := by unfold takeS; rw [if_pos hw]
    have hw8 : widthF k ≤ 8 := by
      unfold widthF
      repeat' split
      all_goals decide
    generalize widthF k = u at *
    have hcl := fun w' (h : RB w' A c P) => takeWide_calls A P c at_ e u u e at_ rfl rfl rfl w' h (by omega) hat hw8
    have hx2 := ht.symm.trans hx
    clear hx ht
    generalize numS P at_ e u = r at *
    obtain ⟨x, a2, e2⟩ := r
    subst hx2
    have HC := Lib.hid hcl
    clear hcl
    have HTr := Lib.hid ((Trio.fresh w w.heap.size rfl (.slice A P.length c) (.int .i64 at_) (.int .i64 e) 86))
    go_enter Try.func46, Try.ntmps46
    go_wp2_with (go_at_call 63; (with_reducible refine (hwd.out _).mono ?_); rintro e1 w1 ⟨rfl, rfl⟩)
    have T3 := HTr.out.new (w' := ((w.alloc (.cells #[.slice A P.length c, .int .i64 at_, .int .i64 e] 86)).alloc (.cells #[.int .i64 k, .int .u64 v, .int .i64 n, .slice B m d] 79)).alloc (.cells #[.slice none 0 0, .int .i64 0, .int .i64 0] 86)) (two_boxes _ _ _)
    have Q2 := Lib.hid (Quad.fresh (w.alloc (.cells #[.slice A P.length c, .int .i64 at_, .int .i64 e] 86)) (w.heap.size + 1) (Array.size_push ..) (.int .i64 k) (.int .u64 v) (.int .i64 n) (.slice B m d) 79)
    have HT6 := Lib.hid (Trio.fresh ((w.alloc (.cells #[.slice A P.length c, .int .i64 at_, .int .i64 e] 86)).alloc (.cells #[.int .i64 k, .int .u64 v, .int .i64 n, .slice B m d] 79)) (w.heap.size + 1 + 1) (asz2 _ _ _) (.slice none 0 0) (.int .i64 0) (.int .i64 0) 86)
    have HT5 := Lib.hid (Trio.fresh (((w.alloc (.cells #[.slice A P.length c, .int .i64 at_, .int .i64 e] 86)).alloc (.cells #[.int .i64 k, .int .u64 v, .int .i64 n, .slice B m d] 79)).alloc (.cells #[.slice none 0 0, .int .i64 0, .int .i64 0] 86)) (w.heap.size + 1 + 1 + 1) (asz3 _ _ _ _) (.slice none 0 0) (.int .i64 0) (.int .i64 0) 86)
    have d0 := T3.c0
    have d1 := T3.c1
    have d2 := T3.c2
    have Q3 := (Quad.fresh (w.alloc (.cells #[.slice A P.length c, .int .i64 at_, .int .i64 e] 86)) (w.heap.size + 1) (Array.size_push ..) (.int .i64 k) (.int .u64 v) (.int .i64 n) (.slice B m d) 79).new (below_alloc1 (Below.refl _ _) (Nat.le_refl _) (.cells #[.slice none 0 0, .int .i64 0, .int .i64 0] 86))
    have d3 := Q3.c0
    have HT3 := Lib.hid T3
    have HQ3 := Lib.hid Q3
    clear T3 Q3
    go_region_held3 (fun w' => w'.cell? ⟨w.heap.size, 0, none⟩ = some (.slice A P.length c) ∧ w'.cell? ⟨w.heap.size, 1, none⟩ = some (.int .i64 at_) ∧ w'.cell? ⟨w.heap.size, 2, none⟩ = some (.int .i64 e) ∧ w'.cell? ⟨w.heap.size + 1, 0, none⟩ = some (.int .i64 k)) (first | go_keep | (refine ⟨?_, ?_, ?_, ?_⟩ <;> exact cell_far (by omega) (cell_far (by omega) (cell_far (by omega) (by assumption))))) (first
      | (go_at_call 63; (with_reducible refine (hwd.out _).mono ?_); rintro e2 w2 ⟨rfl, rfl⟩)
      | (go_at_call 55; (with_reducible refine (HC.out _ ?_).mono ?_); (· ((repeat (first | refine RB.alloc ?_ _ | refine RB.drew1 ?_)); exact hp)); rintro e3 w3 ⟨rfl, hb3⟩; have T4 : Trio w3 w.heap.size (.slice A P.length c) (.int .i64 at_) (.int .i64 e) := Trio.new (by repeat (first | exact HTr.out | refine Trio.alloc ?_ _ | refine Trio.drew ?_)) hb3; have Q4 : Quad w3 (w.heap.size + 1) (.int .i64 k) (.int .u64 v) (.int .i64 n) (.slice B m d) := Quad.new (by repeat (first | exact Q2.out | refine Quad.alloc ?_ _ | refine Quad.drew ?_)) hb3; have d0 := T4.c0; have d1 := T4.c1; have d2 := T4.c2; have d3 := Q4.c0; have T6 : Trio w3 (w.heap.size + 1 + 1) (.slice none 0 0) (.int .i64 0) (.int .i64 0) := Trio.new (by repeat (first | exact HT6.out | refine Trio.alloc ?_ _ | refine Trio.drew ?_)) hb3; have B3 : Below w.heap.size w w3 := below_then (by repeat (first | exact HB3.out | refine Below.drew ?_ | refine belowA ?_ _)) hb3; have hsz := T6.lt; have y0 := T6.c0; have y1 := T6.c1; have y2 := T6.c2; have g0 := T6.fz 0; have g1 := T6.fz 1; have g2 := T6.fz 2; (first | (have T5 : Trio w3 (w.heap.size + 1 + 1 + 1) (.slice none 0 0) (.int .i64 0) (.int .i64 0) := Trio.new (Trio.drew HT5.out) hb3; have z0 := T5.c0; have z1 := T5.c1; have z2 := T5.c2; have f0 := T5.fz 0; have f1 := T5.fz 1; have f2 := T5.fz 2) | skip)))
    all_goals
      go_wp2
      go_region
      all_goals go_wp2
      have h6 : w.heap.size ≤ w.heap.size + 1 + 1 := by omega
      have h7 : w.heap.size ≤ w.heap.size + 1 + 1 + 1 := by omega
      have hne : w.heap.size + 1 + 1 ≠ w.heap.size + 1 + 1 + 1 := by omega
      refine bodyPost_ret (results_tk rfl _ _ (w.heap.size + 1 + 1) (.slice A P.length c) (.int .i64 a2) (.int .i64 e2) rfl ?_) rfl ⟨none, 0, rfl, OB.nil _ _ _, ?_⟩
      · with_reducible first
          | exact Trio.drew (Trio.alloc (Trio.put T6 _ _ _) _)
          | exact Trio.drew (Trio.put (Trio.other (Trio.other (Trio.other T6 hne) hne) hne) _ _ _)
      · with_reducible first
          | exact Below.drew (belowA (belowS (belowS (belowS B3 h6 _) h6 _) h6 _) _)
          | exact Below.drew (belowS (belowS (belowS (belowS (belowS (belowS B3 h7 _) h7 _) h7 _) h6 _) h6 _) h6 _)
  · have hw0 : widthF k = 0 := by omega
    have hwd0 := Lib.hid (fun w' => widthN k 0 (by rw [hw0]; rfl) w')
    have hx : takeS P at_ e k n = if k = 5 then ⟨0 + (uvarS P at_ e).1, [], (uvarS P at_ e).2.1, (uvarS P at_ e).2.2⟩
      else if k = 6 then ⟨0, (rawS P at_ e n).1, (rawS P at_ e n).2.1, (rawS P at_ e n).2.2⟩
      else if k = 7 then ⟨0, (blobS P at_ e n).1, (blobS P at_ e n).2.1, (blobS P at_ e n).2.2⟩
      else ⟨0, [], at_, e⟩ := by unfold takeS; rw [if_neg hw, Nat.zero_add]
    clear hw hw0 hwd
    have HT6 := Lib.hid (Trio.fresh ((w.alloc (.cells #[.slice A P.length c, .int .i64 at_, .int .i64 e] 86)).alloc (.cells #[.int .i64 k, .int .u64 v, .int .i64 n, .slice B m d] 79)) (w.heap.size + 1 + 1) (asz2 _ _ _) (.slice none 0 0) (.int .i64 0) (.int .i64 0) 86)
    rcases (by simp only [beq_eq_false_iff_ne]; omega : k = 5 ∨ k = 6 ∨ k = 7 ∨ ((k == 5) = false ∧ (k == 6) = false ∧ (k == 7) = false)) with rfl | rfl | rfl | ⟨b5, b6, b7⟩
    · clear hx
      have hx : takeS P at_ e 5 n = ⟨(uvarS P at_ e).1, [], (uvarS P at_ e).2.1, (uvarS P at_ e).2.2⟩ := rfl
      have hcl := fun w' (h : RB w' A c P) => takeUvar_calls A P c at_ e e at_ rfl rfl w' h hl hat
      have hx2 := ht.symm.trans hx
      clear hx ht
      generalize uvarS P at_ e = r at *
      obtain ⟨x, a2, e2⟩ := r
      subst hx2
      have HC := Lib.hid hcl
      clear hcl
      go_enter Try.func46, Try.ntmps46
      go_wp2_with (first
        | (go_at_call 63; (with_reducible refine (hwd0.out _).mono ?_); rintro e1 w1 ⟨rfl, rfl⟩)
        | (go_at_call 75; (with_reducible refine (HC.out _ (hp.new HB3.out)).mono ?_); rintro e3 w3 ⟨rfl, hb3⟩; have T6 : Trio w3 (w.heap.size + 1 + 1) (.slice none 0 0) (.int .i64 0) (.int .i64 0) := Trio.new HT6.out hb3; have B3 : Below w.heap.size w w3 := below_then HB3.out hb3; have hsz := T6.lt; have y0 := T6.c0; have y1 := T6.c1; have y2 := T6.c2; have g0 := T6.fz 0; have g1 := T6.fz 1; have g2 := T6.fz 2))
      go_region
      all_goals go_wp2
      have h6 : w.heap.size ≤ w.heap.size + 1 + 1 := by omega
      refine bodyPost_ret (results_tk rfl _ _ (w.heap.size + 1 + 1) (.slice A P.length c) (.int .i64 a2) (.int .i64 e2) rfl ?_) rfl ⟨none, 0, rfl, ?_, ?_⟩
      · with_reducible first
          | exact Trio.drew (Trio.alloc (Trio.put T6 _ _ _) _)
      · exact OB.nil _ _ _
      · with_reducible first
          | exact Below.drew (belowA (belowS (belowS (belowS B3 h6 _) h6 _) h6 _) _)
    · clear hx
      have hx : takeS P at_ e 6 n = ⟨0, (rawS P at_ e n).1, (rawS P at_ e n).2.1, (rawS P at_ e n).2.2⟩ := rfl
      have hcl := fun w' (h : RB w' A c P) => takeRaw_calls A P c at_ e n e at_ rfl rfl w' h hl hat hn
      have hx2 := ht.symm.trans hx
      clear hx ht
      generalize rawS P at_ e n = r at *
      obtain ⟨x, a2, e2⟩ := r
      subst hx2
      have HC := Lib.hid hcl
      clear hcl
      go_enter Try.func46, Try.ntmps46
      go_wp2_with (first
        | (go_at_call 63; (with_reducible refine (hwd0.out _).mono ?_); rintro e1 w1 ⟨rfl, rfl⟩)
        | (go_at_call 56; (with_reducible refine (HC.out _ (hp.new HB3.out)).mono ?_); rintro e3 w3 ⟨A1, c1, rfl, hn1⟩; have T6 : Trio w3 (w.heap.size + 1 + 1) (.slice none 0 0) (.int .i64 0) (.int .i64 0) := Trio.new HT6.out hn1.below; have B3 : Below w.heap.size w w3 := below_then HB3.out hn1.below; have hsz := T6.lt; have y0 := T6.c0; have y1 := T6.c1; have y2 := T6.c2; have g0 := T6.fz 0; have g1 := T6.fz 1; have g2 := T6.fz 2))
      go_region
      all_goals go_wp2
      have h6 : w.heap.size ≤ w.heap.size + 1 + 1 := by omega
      refine bodyPost_ret (results_tk rfl _ _ (w.heap.size + 1 + 1) (.slice A P.length c) (.int .i64 a2) (.int .i64 e2) rfl ?_) rfl ⟨A1, c1, rfl, ?_, ?_⟩
      · with_reducible first
          | exact Trio.drew (Trio.alloc (Trio.put T6 _ _ _) _)
      · have hz3 : w.heap.size + 1 + 1 + 1 = (((w.alloc (.cells #[.slice A P.length c, .int .i64 at_, .int .i64 e] 86)).alloc (.cells #[.int .i64 6, .int .u64 v, .int .i64 n, .slice B m d] 79)).alloc (.cells #[.slice none 0 0, .int .i64 0, .int .i64 0] 86)).heap.size := (asz3 _ _ _ _).symm
        have ho := hn1.own.mono (Nat.le_of_eq hz3)
        have hlt : w.heap.size + 1 + 1 < w.heap.size + 1 + 1 + 1 := Nat.lt_succ_self _
        exact ((((ho.low hlt).low hlt).low hlt).alloc _).drew.mono (by omega)
      · with_reducible first
          | exact Below.drew (belowA (belowS (belowS (belowS B3 h6 _) h6 _) h6 _) _)
    · clear hx
      have hx : takeS P at_ e 7 n = ⟨0, (blobS P at_ e n).1, (blobS P at_ e n).2.1, (blobS P at_ e n).2.2⟩ := rfl
      have hcl := fun w' (h : RB w' A c P) => takeBlob_calls A P c at_ e n e at_ rfl rfl w' h hl hat hn
      have hx2 := ht.symm.trans hx
      clear hx ht
      generalize blobS P at_ e n = r at *
      obtain ⟨x, a2, e2⟩ := r
      subst hx2
      have HC := Lib.hid hcl
      clear hcl
      go_enter Try.func46, Try.ntmps46
      go_wp2_with (first
        | (go_at_call 63; (with_reducible refine (hwd0.out _).mono ?_); rintro e1 w1 ⟨rfl, rfl⟩)
        | (go_at_call 76; (with_reducible refine (HC.out _ (hp.new HB3.out)).mono ?_); rintro e3 w3 ⟨A1, c1, rfl, hn1⟩; have T6 : Trio w3 (w.heap.size + 1 + 1) (.slice none 0 0) (.int .i64 0) (.int .i64 0) := Trio.new HT6.out hn1.below; have B3 : Below w.heap.size w w3 := below_then HB3.out hn1.below; have hsz := T6.lt; have y0 := T6.c0; have y1 := T6.c1; have y2 := T6.c2; have g0 := T6.fz 0; have g1 := T6.fz 1; have g2 := T6.fz 2))
      go_region
      all_goals go_wp2
      have h6 : w.heap.size ≤ w.heap.size + 1 + 1 := by omega
      refine bodyPost_ret (results_tk rfl _ _ (w.heap.size + 1 + 1) (.slice A P.length c) (.int .i64 a2) (.int .i64 e2) rfl ?_) rfl ⟨A1, c1, rfl, ?_, ?_⟩
      · with_reducible first
          | exact Trio.drew (Trio.alloc (Trio.put T6 _ _ _) _)
      · have hz3 : w.heap.size + 1 + 1 + 1 = (((w.alloc (.cells #[.slice A P.length c, .int .i64 at_, .int .i64 e] 86)).alloc (.cells #[.int .i64 7, .int .u64 v, .int .i64 n, .slice B m d] 79)).alloc (.cells #[.slice none 0 0, .int .i64 0, .int .i64 0] 86)).heap.size := (asz3 _ _ _ _).symm
        have ho := hn1.own.mono (Nat.le_of_eq hz3)
        have hlt : w.heap.size + 1 + 1 < w.heap.size + 1 + 1 + 1 := Nat.lt_succ_self _
        exact ((((ho.low hlt).low hlt).low hlt).alloc _).drew.mono (by omega)
      · with_reducible first
          | exact Below.drew (belowA (belowS (belowS (belowS B3 h6 _) h6 _) h6 _) _)
    · have h5 : ¬ k = 5 := by simpa using b5
      have h6 : ¬ k = 6 := by simpa using b6
      have h7 : ¬ k = 7 := by simpa using b7
      rw [if_neg h5, if_neg h6, if_neg h7] at hx
      have hx2 := ht.symm.trans hx
      clear hx ht h5 h6 h7
      subst hx2
      go_enter Try.func46, Try.ntmps46
      go_wp2_with (go_at_call 63; (with_reducible refine (hwd0.out _).mono ?_); rintro e1 w1 ⟨rfl, rfl⟩)
      go_region
      all_goals go_wp2
      refine bodyPost_ret (results_tk rfl _ _ (w.heap.size + 1 + 1) (.slice A P.length c) (.int .i64 at_) (.int .i64 e) rfl ?_) rfl ⟨none, 0, rfl, OB.nil _ _ _, ?_⟩
      · exact Trio.drew (Trio.fresh ((w.alloc (.cells #[.slice A P.length c, .int .i64 at_, .int .i64 e] 86)).alloc (.cells #[.int .i64 k, .int .u64 v, .int .i64 n, .slice B m d] 79)) _ (asz2 _ _ _) _ _ _ _)
      · exact Below.drew (belowA HB2.out _)

/-- the place never passes the end -/
theorem takeS_le (P : List UInt8) (at_ e : Nat) (k n : Int) (h : at_ ≤ P.length) : (takeS P at_ e k n).at_ ≤ P.length := by
  unfold takeS
  split
  · unfold WireMath.numS
    split
    · exact h
    · split
      · exact h
      · show at_ + widthF k ≤ P.length
        omega
  · split
    · have := grpLe P at_ h
      unfold WireMath.uvarS
      split
      · exact h
      · exact this
    · split
      · unfold WireMath.rawS
        split
        · exact h
        · split
          · exact h
          · split
            · exact h
            · show at_ + n.toNat ≤ P.length
              omega
      · split
        · have := grpLe P at_ h
          unfold WireMath.blobS
          repeat' split
          all_goals first
            | exact h
            | (show at_ + _ + _ ≤ P.length; omega)
        · exact h
end Go.Proofs.Ytlcbjjgmkllceaa
