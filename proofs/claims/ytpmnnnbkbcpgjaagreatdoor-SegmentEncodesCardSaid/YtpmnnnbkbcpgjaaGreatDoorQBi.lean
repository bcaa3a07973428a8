import Derived.Test.YtpmnnnbkbcpgjaaGreatDoorQSameEntry
import Derived.Lib.SmallJoins
/- Copies of lists of entries and of batches. -/
namespace Go.Proofs.YtpmnnnbkbcpgjaaGreatDoor
open Go.RowKit
open WireMath (numS beN rawS blobS uvarS grpL uvarL wideL)

theorem NewE.far {w w' : World} {e : En} {a : EnA} (h : NewE w w' e a) {base : Nat} (hb : base ≤ w.heap.size) {v : Value} (hv : ∀ k, v.ownBlock = some k → k < w.heap.size) : FarE base v (e, a) :=
  ⟨fun ad e' hp => by
    have := h.K.lo ad e' hp
    exact ⟨Nat.le_trans hb this, fun e9 => by have := hv _ e9; have h9 : w.heap.size ≤ ad.block := h.K.lo ad e' hp; omega⟩,
   fun ad e' hp => by
    have := h.V.lo ad e' hp
    exact ⟨Nat.le_trans hb this, fun e9 => by have := hv _ e9; have h9 : w.heap.size ≤ ad.block := h.V.lo ad e' hp; omega⟩⟩
def SmallEs (es : List EnX) : Prop := ∀ x ∈ es, x.1.K.length ≤ 140737488355328 ∧ x.1.V.length ≤ 140737488355328
theorem FarE.mono {lo lo' : Nat} {v : Value} {x : EnX} (h : FarE lo v x) (hb : lo' ≤ lo) : FarE lo' v x :=
  ⟨fun a e hp => ⟨Nat.le_trans hb (h.K a e hp).1, (h.K a e hp).2⟩, fun a e hp => ⟨Nat.le_trans hb (h.V a e hp).1, (h.V a e hp).2⟩⟩
theorem EL.mono {w : World} {base base' n : Nat} {v : Value} {es : List EnX} (h : EL w base v n es) (hb : base' ≤ base) : EL w base' v n es := ⟨Joins.ownsRow_le h.row hb, h.len, h.ok, fun x hx => (h.far x hx).mono hb⟩
theorem results_bat {fn : Func} {p : Tmp} (h : fn.results = #[.cell p 35]) (tmps : Array Value) (w : World) (b : Nat) (x y : Value) (hp : tmps.getD p undef = .pointer (some ⟨b, 0, none⟩)) (ht : Duo w b x y) :
    (results fn tmps).run Tryz.prog w = .ok (.agg #[x, y]) w := by
  have hp' : tmps[p]?.getD undef = .pointer (some ⟨b, 0, none⟩) := by simpa using hp
  have hl := run_loadVar_mid (P := Tryz.prog) w b 0 35 [x, y] _ (fun j v hj => by
    match j, hj with
    | 0, hj => simp at hj; subst hj; simpa using ht.c0
    | 1, hj => simp at hj; subst hj; simpa using ht.c1
    | j + 2, hj => simp at hj) Tryz.underlying35 rfl (by kernel_rfl)
  simp [results, h, hp', asAddr, hl]
set_option maxRecDepth 100000 in
theorem twinEs_calls (A : Option Addr) (es : List EnX) (n c : Nat) (w : World) (h : Ents w A es) (hn : n = es.length) (hl : n * 56 ≤ 140737488355328) (hs : SmallEs es) :
    Calls Tryz.prog 53 #[.slice A n c] w fun r w' => ∃ A' c' ds, r = .returned (.slice A' n c') ∧ EL w' w.heap.size (.slice A' n c') n ds ∧ ensOf ds = ensOf es ∧ Below w.heap.size w w' := by
  have HN := Lib.hid hn
  clear hn
  go_enter Tryz.func53, Tryz.ntmps53
  go_wp2
  go_loopw [3, 5, 8] (fun v _ iv wr => ∃ (j : Nat) (A1 : Option Addr) (c1 : Nat) (ds : List EnX), j ≤ n ∧ iv = .int .i64 j ∧ v = .slice A1 j c1 ∧ EL wr w.heap.size (.slice A1 j c1) j ds ∧ ensOf ds = ensOf (es.take j) ∧ Below w.heap.size w wr) (fun _ _ iv _ => n - (intOf iv).toNat)
  case atStart => exact ⟨0, none, 0, [], Nat.zero_le _, rfl, rfl, EL.nil _ _, by simp [ensOf], Below.refl _ _⟩
  case round =>
    obtain ⟨j, A1, c1, ds, hj, rfl, rfl, HEL, hds, HBB⟩ := hrel
    by_cases hlt : j < n
    · obtain ⟨a, o, x, rfl, ho, hmem, hok, k0, k1, k2⟩ := (h.new HBB).at_ j (by rw [← HN.out]; exact hlt)
      obtain ⟨s1, s2⟩ := hs _ hmem
      have HB5 := Lib.hid (belowA HBB (.cells #[.int .u8 o.k, .slice x.KA o.K.length x.kc, .slice x.VA o.V.length x.vc] 72))
      have HT5 := Lib.hid (Trio.fresh wr wr.heap.size rfl (.int .u8 o.k) (.slice x.KA o.K.length x.kc) (.slice x.VA o.V.length x.vc) 72)
      have HEL5 := Lib.hid (HEL.new (below_alloc1 (Below.refl _ _) (Nat.le_refl _) (.cells #[.int .u8 o.k, .slice x.KA o.K.length x.kc, .slice x.VA o.V.length x.vc] 72)))
      have HDS := Lib.hid (show ensOf (ds ++ [(o, x)]) = ensOf (es.take (j + 1)) by rw [ensOf_take es j o x ho, ← hds]; simp [ensOf])
      have HROW := Lib.hid HEL5.out.lt
      have hk := hok.k
      clear ho hds
      go_wp2_with (first
        | (go_at_call 89; go_loud ((with_reducible refine (twinEntry_calls o x _ _ rfl rfl _ (hok.new (below_alloc1 (Below.refl _ _) (Nat.le_refl _) _)) s1 s2).mono ?_)); rintro e5 w5 ⟨a5, rfl, hn5⟩; have B5 := Lib.hid (below_then HB5.out hn5.below); have L5 := Lib.hid (HEL5.out.new hn5.below); have R5 := Lib.hid (hn5.far (base := w.heap.size) (v := .slice A1 j c1) HB5.out.size (fun k e9 => (HROW.out k e9).2)); have E5 := Lib.hid (hn5.ok hk))
        | (refine wp_appendE ent rfl (.tmp 12) (.tmp 15) rfl w.heap.size (.slice A1 j c1) j ds rfl (L5.out.new (below_alloc1 (Below.refl _ _) (Nat.le_refl _) (.cells #[.int .u8 o.k, .slice a5.KA o.K.length a5.kc, .slice a5.VA o.V.length a5.vc] 72))) (o, a5) ⟨w5.heap.size, 0, Option.none⟩ rfl (tri_at w5 _ _ _ _).1 (tri_at w5 _ _ _ _).2.1 (tri_at w5 _ _ _ _).2.2 (E5.out.new (below_alloc1 (Below.refl _ _) (Nat.le_refl _) (.cells #[.int .u8 o.k, .slice a5.KA o.K.length a5.kc, .slice a5.VA o.V.length a5.vc] 72))) R5.out (by omega) (belowA B5.out (.cells #[.int .u8 o.k, .slice a5.KA o.K.length a5.kc, .slice a5.VA o.V.length a5.vc] 72)).size fun A' c' w7 hl7 hg7 => ?_; have B7 := Lib.hid ((belowA B5.out (.cells #[.int .u8 o.k, .slice a5.KA o.K.length a5.kc, .slice a5.VA o.V.length a5.vc] 72)).grown hg7 (belowA B5.out (.cells #[.int .u8 o.k, .slice a5.KA o.K.length a5.kc, .slice a5.VA o.V.length a5.vc] 72)).size (fun k e9 => (HROW.out _ e9).1))))
      go_roundw
      case rel => exact ⟨j + 1, A', c', ds ++ [(o, a5)], by omega, by go_num, rfl, hl7, by rw [← HDS.out]; simp [ensOf], B7.out⟩
      case measure => simp [intOf]; omega
    · obtain rfl : j = n := by omega
      clear hlt
      rw [List.take_of_length_le (Nat.le_of_eq HN.out.symm)] at hds
      go_wp2
      go_ret
      exact ⟨A1, c1, ds, rfl, HEL, hds, HBB⟩
set_option maxRecDepth 100000 in
theorem twinB_calls (f : Nat) (A : Option Addr) (es : List EnX) (n c : Nat) (w : World) (h : Ents w A es) (hn : n = es.length) (hl : n * 56 ≤ 140737488355328) (hs : SmallEs es) :
    Calls Tryz.prog 21 #[.agg #[.int .u64 f, .slice A n c]] w fun r w' => ∃ A' c' ds, r = .returned (.agg #[.int .u64 f, .slice A' n c']) ∧ EL w' w.heap.size (.slice A' n c') n ds ∧ ensOf ds = ensOf es ∧ Below w.heap.size w w' := by
  have HB := Lib.hid (belowA (below_alloc1 (Below.refl w.heap.size w) (Nat.le_refl _) (.cells #[.int .u64 f, .slice A n c] 35)) (.cells #[.int .u64 0, .slice none 0 0] 35))
  have HT := Lib.hid ((Duo.fresh w w.heap.size rfl (.int .u64 f) (.slice A n c) 35).new (below_alloc1 (Below.refl _ _) (Nat.le_refl _) (.cells #[.int .u64 0, .slice none 0 0] 35)))
  have HS := Lib.hid (Duo.fresh (w.alloc (.cells #[.int .u64 f, .slice A n c] 35)) (w.heap.size + 1) (asz _ _) (.int .u64 0) (.slice none 0 0) 35)
  have x0 := HT.out.c0
  have x1 := HT.out.c1
  have HH := Lib.hid (h.new HB.out)
  have HN := Lib.hid hn
  clear hn
  go_enter Tryz.func21, Tryz.ntmps21
  go_wp2
  go_region_held3 (fun w' => w'.cell? ⟨w.heap.size, 0, none⟩ = some (.int .u64 f) ∧ w'.cell? ⟨w.heap.size, 1, none⟩ = some (.slice A n c)) (go_keep) (first | (go_at_call 53; go_loud ((with_reducible refine (twinEs_calls A es n c _ (HH.out.new (below_drew _ _)) HN.out hl hs).mono ?_)); rintro e3 w3 ⟨A3, c3, ds, rfl, hl3, hd3, hb3⟩; have T3 := (HT.out.new (below_drew _ _)).new hb3; have S3 := (HS.out.new (below_drew _ _)).new hb3; have hz3 := S3.lt; have x0 := T3.c0; have x1 := T3.c1; have s0 := S3.c0; have s1 := S3.c1; have f0 := S3.fz 0; have f1 := S3.fz 1; have B3 := Lib.hid (below_then HB.out.drew hb3)))
  all_goals
    go_wp2
    have hle : w.heap.size + 1 + 1 ≤ (((w.alloc (.cells #[.int .u64 f, .slice A n c] 35)).alloc (.cells #[.int .u64 0, .slice none 0 0] 35)).drew).heap.size := Nat.le_of_eq (asz2 _ _ _).symm
    exact bodyPost_ret (results_bat rfl _ _ (w.heap.size + 1) _ _ rfl ((S3.set0 (.int .u64 f)).set1 (.slice A3 n c3))) rfl ⟨A3, c3, ds, rfl, ((hl3.setLow (by omega)).setLow (by omega)).mono (by omega), hd3, ((B3.out).setCell (by show w.heap.size ≤ w.heap.size + 1; omega) _).setCell (by show w.heap.size ≤ w.heap.size + 1; omega) _⟩
end Go.Proofs.YtpmnnnbkbcpgjaaGreatDoor

/- The walks of notaryref05.DocCheckBatch and DocEncodeBatch. -/
namespace Go.Proofs.YtpmnnnbkbcpgjaaGreatDoor
open Go.RowKit
open WireMath (numS beN rawS blobS uvarS grpL uvarL wideL)

theorem chkF_val (e : En) : chkF e = 0 ∨ chkF e = 2 ∨ chkF e = 3 := by
  unfold chkF
  split
  · exact .inr (.inl rfl)
  · split
    · exact .inr (.inr rfl)
    · exact .inl rfl
theorem leastF_03 (a b : Nat) (ha : a = 0 ∨ a = 3) (hb : b = 0 ∨ b = 3) : leastF a b = max a b ∧ (leastF a b = 0 ∨ leastF a b = 3) := by
  rcases ha with rfl | rfl <;> rcases hb with rfl | rfl <;> decide
theorem leastF_2r (a : Nat) (ha : a = 0 ∨ a = 3) : leastF a 2 = 2 := by
  rcases ha with rfl | rfl <;> decide
theorem fold2 (l : List En) : l.foldl (fun e x => leastF e (chkF x)) 2 = 2 := by
  induction l with
  | nil => rfl
  | cons y l ih =>
    rw [List.foldl_cons]
    have : leastF 2 (chkF y) = 2 := by rcases chkF_val y with h | h | h <;> rw [h] <;> decide
    rw [this]; exact ih
theorem errB_big (f n : Nat) (l : List En) (h : 64 < n) : errB f n l = 2 := by
  unfold errB
  have : err0 f n = 2 := by
    unfold err0
    rw [if_pos h]
    split <;> decide
  rw [this]; exact fold2 l
theorem errB_at (f n : Nat) (l : List En) (j : Nat) (e : Nat) (x : En) (he : e = (l.take j).foldl (fun e x => leastF e (chkF x)) (err0 f n)) (hx : l[j]? = some x) (h0 : e = 0 ∨ e = 3) (hc : chkF x = 2) : errB f n l = 2 := by
  obtain ⟨hj, hx'⟩ := List.getElem?_eq_some_iff.1 hx
  unfold errB
  have h1 : l = l.take j ++ x :: l.drop (j + 1) := by
    rw [← hx', List.getElem_cons_drop]
    exact (List.take_append_drop j l).symm
  rw [h1, List.foldl_append, List.foldl_cons, ← he, hc, leastF_2r e h0]
  exact fold2 _
theorem ensOf_get (es : List EnX) (j : Nat) (o : En) (x : EnA) (h : es[j]? = some (o, x)) : (ensOf es)[j]? = some o := by
  unfold ensOf; rw [List.getElem?_map, h]; rfl
theorem ensOf_takeN (es : List EnX) (j : Nat) : ensOf (es.take j) = (ensOf es).take j := by
  unfold ensOf; rw [List.map_take]
theorem dfits_calls (f n : Nat) (F : Int) (hF : F = f) (hf : f ≤ 18446744073709551615) (hn : n ≤ 9223372036854775807) (w : World) (r : Bool) (hr : decide (f + n < 18446744073709551616) = r) :
    Calls Tryz.prog 113 #[.int .u64 F, .int .i64 n] w fun e w' => e = .returned (.bool r) ∧ w = w' := by
  subst hF
  have hc : IntKind.u64.wrap (n : Int) = n := u64_nat n hn
  go_enter Tryz.func113, Tryz.ntmps113
  go_wp2
  go_ret
  refine ⟨ret_bool ?_, rfl⟩
  subst hr
  have e1 : IntKind.u64.wrap ((f : Int) + n) = ((f + n) % 18446744073709551616 : Nat) := by rw [IntKind.wrap_u64]; omega
  first
    | rw [e1]
    | skip
  simp only [decide_eq_decide]
  omega
set_option maxHeartbeats 1000000 in
set_option maxRecDepth 100000 in
theorem docCheckB_calls (f : Nat) (V : Int) (hV : V = f) (hf : f ≤ 18446744073709551615) (A : Option Addr) (n c : Nat) (es : List EnX) (w : World) (h : Ents w A es) (hn : n = es.length) (hl : n ≤ 9223372036854775807) (X : Nat) (hX : X = errB f n (ensOf es)) :
    Calls Tryz.prog 90 #[.agg #[.int .u64 V, .slice A n c]] w fun r w' => r = .returned (.int .i64 X) ∧ Below w.heap.size w w' := by
  subst hV
  have HB := Lib.hid (below_alloc1 (Below.refl w.heap.size w) (Nat.le_refl _) (.cells #[.int .u64 f, .slice A n c] 35))
  have HT := Lib.hid (Duo.fresh w w.heap.size rfl (.int .u64 f) (.slice A n c) 35)
  have HX := Lib.hid hX
  have HN := Lib.hid hn
  have HL := Lib.hid hl
  have hf9 : f ≤ 18446744073709551615 := hf
  clear hX hn
  have hcase : (64 < n ∧ decide ((64 : Int) < (n : Int)) = true) ∨ (¬ 64 < n ∧ decide ((64 : Int) < (n : Int)) = false) := by
    by_cases h : 64 < n
    · exact .inl ⟨h, by rw [decide_eq_true_eq]; omega⟩
    · exact .inr ⟨h, by rw [decide_eq_false_iff_not]; omega⟩
  have hcase2 : (n = 0 ∧ ((n : Int) == 0) = true) ∨ (n ≠ 0 ∧ ((n : Int) == 0) = false ∧ f + n < 18446744073709551616) ∨ (n ≠ 0 ∧ ((n : Int) == 0) = false ∧ 18446744073709551616 ≤ f + n) := by
    by_cases h : n = 0
    · exact .inl ⟨h, by rw [beq_iff_eq]; omega⟩
    · by_cases h' : f + n < 18446744073709551616
      · exact .inr (.inl ⟨h, by rw [beq_eq_false_iff_ne]; omega, h'⟩)
      · exact .inr (.inr ⟨h, by rw [beq_eq_false_iff_ne]; omega, by omega⟩)
  rcases hcase with ⟨g1, b1⟩ | ⟨g1, b1⟩
  · have HX2 := Lib.hid (show (2 : Int) = (X : Nat) by rw [HX.out, errB_big _ _ _ g1]; rfl)
    clear HX
    rcases hcase2 with ⟨g2, b2⟩ | ⟨g2, b2, g3⟩ | ⟨g2, b2, g3⟩
    · omega
    all_goals
      first
        | (have HFB := Lib.hid (show decide (f + n < 18446744073709551616) = true by rw [decide_eq_true_eq]; omega))
        | (have HFB := Lib.hid (show decide (f + n < 18446744073709551616) = false by rw [decide_eq_false_iff_not]; omega))
      clear g1 g2 g3
      go_enter Tryz.func90, Tryz.ntmps90
      go_wp2_with (go_at_call 113; go_loud (with_reducible refine (dfits_calls f n _ rfl hf9 HL.out _ _ HFB.out).mono ?_); rintro r5 w5 ⟨rfl, rfl⟩)
      go_ret
      exact ⟨by rw [HX2.out]; rfl, HB.out⟩
  · obtain ⟨e0, he0⟩ : ∃ e0, e0 = err0 f n := ⟨_, rfl⟩
    have HE0 := Lib.hid he0
    have hE : ((n = 0 ∨ 18446744073709551616 ≤ f + n) → e0 = 3) ∧ (¬ (n = 0 ∨ 18446744073709551616 ≤ f + n) → e0 = 0) := by
      refine ⟨fun h => ?_, fun h => ?_⟩
      · rw [he0]; unfold err0; rw [if_pos h, if_neg g1]; decide
      · rw [he0]; unfold err0; rw [if_neg h, if_neg g1]
    clear he0
    rcases hcase2 with ⟨g2, b2⟩ | ⟨g2, b2, g3⟩ | ⟨g2, b2, g3⟩
    all_goals
      first
        | (have H00 := Lib.hid (hE.1 (.inl g2)); have HFB : Hid (decide (f + n < 18446744073709551616) = decide (f + n < 18446744073709551616)) := Lib.hid rfl)
        | (have H00 := Lib.hid (hE.2 (by omega)); have HFB := Lib.hid (show decide (f + n < 18446744073709551616) = true by rw [decide_eq_true_eq]; omega))
        | (have H00 := Lib.hid (hE.1 (.inr g3)); have HFB := Lib.hid (show decide (f + n < 18446744073709551616) = false by rw [decide_eq_false_iff_not]; omega))
      have H03 : Hid (e0 = 0 ∨ e0 = 3) := Lib.hid (by rw [H00.out]; decide)
      clear hE g1 g2
      try clear g3
      go_enter Tryz.func90, Tryz.ntmps90
      go_wp2_with (go_at_call 113; go_loud (with_reducible refine (dfits_calls f n _ rfl hf9 HL.out _ _ HFB.out).mono ?_); rintro r5 w5 ⟨rfl, rfl⟩)
      go_loopw [3, 5, 6, 27] (fun ev _ _ iv wr => ∃ (j e : Nat), j ≤ n ∧ iv = .int .i64 j ∧ ev = .int .i64 e ∧ Hid (e = ((ensOf es).take j).foldl (fun e x => leastF e (chkF x)) e0) ∧ Hid (e = 0 ∨ e = 3) ∧ Ents wr A es ∧ Below w.heap.size w wr) (fun _ _ _ iv _ => n - (intOf iv).toNat)
      case atStart => exact ⟨0, e0, Nat.zero_le _, rfl, by rw [H00.out]; rfl, Lib.hid rfl, H03, h.new HB.out, HB.out⟩
      case round =>
        obtain ⟨j, e, hj, rfl, rfl, HEQ, HE3, HES, HBB⟩ := hrel
        by_cases hlt : j < n
        · obtain ⟨a, o, x, rfl, ho, hmem, hok, k0, k1, k2⟩ := HES.at_ j (by rw [← HN.out]; exact hlt)
          have ho' := ensOf_get es j o x ho
          obtain ⟨ch, hch⟩ : ∃ ch, ch = chkF o := ⟨_, rfl⟩
          have HCH := Lib.hid hch.symm
          have HT5 := Lib.hid (Trio.fresh wr wr.heap.size rfl (.int .u8 o.k) (.slice x.KA o.K.length x.kc) (.slice x.VA o.V.length x.vc) 72)
          have HB5 := Lib.hid (belowA HBB (.cells #[.int .u8 o.k, .slice x.KA o.K.length x.kc, .slice x.VA o.V.length x.vc] 72))
          have hz5 := HT5.out.lt
          by_cases h2 : ch = 2
          · have HX2 := Lib.hid (show (2 : Int) = (X : Nat) by rw [HX.out, errB_at f n (ensOf es) j e o (by rw [HEQ.out, HE0.out]) ho' HE3.out (by rw [HCH.out, h2])]; rfl)
            have hb2 : ((ch : Int) == 2) = true := by rw [beq_iff_eq]; omega
            clear h2 hch ho ho' HEQ
            go_wp2_with (go_at_call 138; go_loud (with_reducible refine (docCheckN o x.KA x.VA o.K.length o.V.length x.kc x.vc _ rfl rfl ch (congrArg _ HCH.out)).mono ?_); rintro r7 w7 ⟨rfl, hb7⟩; have hb7' := Lib.hid hb7)
            go_ret
            exact ⟨by rw [HX2.out]; rfl, below_then HB5.out hb7'.out⟩
          · have hb2 : ((ch : Int) == 2) = false := by rw [beq_eq_false_iff_ne]; omega
            obtain ⟨m1, m2⟩ := leastF_03 e ch HE3.out (by rcases chkF_val o with h | h | h <;> omega)
            obtain ⟨e9, he9⟩ : ∃ e9, e9 = leastF e ch := ⟨_, rfl⟩
            have HNX := Lib.hid (show e9 = ((ensOf es).take (j + 1)).foldl (fun e x => leastF e (chkF x)) e0 by
              obtain ⟨q1, q2⟩ := List.getElem?_eq_some_iff.1 ho'
              rw [List.take_succ_eq_append_getElem q1, q2, List.foldl_append, ← HEQ.out, he9, hch]; rfl)
            have HMX := Lib.hid (show ((max e ch : Nat) : Int) = e9 by rw [← m1, he9])
            have HM3 : Hid (e9 = 0 ∨ e9 = 3) := Lib.hid (by rw [he9]; exact m2)
            clear h2 hch ho ho' HEQ he9 m1 m2
            go_wp2_with (go_at_call 138; go_loud (with_reducible refine (docCheckN o x.KA x.VA o.K.length o.V.length x.kc x.vc _ rfl rfl ch (congrArg _ HCH.out)).mono ?_); rintro r7 w7 ⟨rfl, hb7⟩; have hb7' := Lib.hid hb7)
            go_roundw
            case rel => exact ⟨j + 1, e9, by omega, by go_num, by rw [← HMX.out]; first | rfl | (congr 1; omega), HNX, HM3, (HES.new (below_alloc1 (Below.refl _ _) (Nat.le_refl _) _)).new hb7'.out, below_then HB5.out hb7'.out⟩
            case measure => simp [intOf]; omega
        · obtain rfl : j = n := by omega
          have hXe : e = X := by rw [HX.out, HEQ.out, List.take_of_length_le (by have := HN.out; simp [ensOf]; omega)]; unfold errB; rw [HE0.out]
          subst hXe
          clear hlt HEQ
          go_wp2
          go_ret
          exact ⟨rfl, HBB⟩
theorem refuvarP (v : Nat) (V : Int) (hV : V = v) (p : List UInt8) (hp : uvarL v = p) (w : World) (hv : v ≤ 18446744073709551615) :
    Calls Tryz.prog 91 #[.int .u64 V] w fun e w' => ∃ A' c', e = .returned (.slice A' p.length c') ∧ NewB w w' (.slice A' p.length c') p := by
  subst hp; exact refuvar_calls v V hV w hv
set_option maxHeartbeats 1000000 in
set_option maxRecDepth 100000 in
theorem docEncB_calls (f : Nat) (V : Int) (hV : V = f) (hf : f ≤ 18446744073709551615) (A : Option Addr) (n c : Nat) (es : List EnX) (w : World) (h : Ents w A es) (hn : n = es.length) (hl : n ≤ 9223372036854775807) (q : List UInt8) (eE : Nat) (hq : encBF f (ensOf es) = (q, eE)) :
    Calls Tryz.prog 54 #[.agg #[.int .u64 V, .slice A n c]] w fun r w' => ∃ A' c', r = .returned (.tuple #[.slice A' q.length c', .int .i64 eE]) ∧ NewB w w' (.slice A' q.length c') q := by
  subst hV
  have hen : (ensOf es).length = n := by rw [hn]; simp [ensOf]
  have HB := Lib.hid (below_alloc1 (Below.refl w.heap.size w) (Nat.le_refl _) (.cells #[.int .u64 f, .slice A n c] 35))
  have HT := Lib.hid (Duo.fresh w w.heap.size rfl (.int .u64 f) (.slice A n c) 35)
  have HN := Lib.hid hn
  have HL := Lib.hid hl
  have HEN := Lib.hid hen
  have hf9 : f ≤ 18446744073709551615 := hf
  obtain ⟨X, hX⟩ : ∃ X : Nat, X = errB f n (ensOf es) := ⟨_, rfl⟩
  have HX := Lib.hid hX
  have hq' := hq
  unfold encBF at hq'
  rw [hen, ← hX] at hq'
  have HQ := Lib.hid hq'
  have x0 := HT.out.c0
  have x1 := HT.out.c1
  clear hX hn hen hq hq'
  by_cases hz : X = 0
  · have hb : ((X : Int) != 0) = false := by rw [bne_eq_false_iff_eq]; omega
    have hq := HQ.out
    rw [if_pos hz] at hq
    injection hq with hq1 hq2
    subst hq2
    obtain ⟨nf, nn, n64⟩ := err0_zero f n (by have := HX.out; rw [hz] at this; unfold errB at this; exact (fold_zero _ _ this.symm).1)
    have HCK : Hid (∀ x ∈ ensOf es, chkF x = 0) := Lib.hid (by have := HX.out; rw [hz] at this; unfold errB at this; exact (fold_zero _ _ this.symm).2)
    have H64 := Lib.hid n64
    unfold encBL at hq1
    rw [HEN.out] at hq1
    have HQ1 := Lib.hid hq1
    have HUF := Lib.hid (WireMath.uvarL_length f)
    have HUN := Lib.hid (WireMath.uvarL_length n)
    obtain ⟨p1, hp1⟩ : ∃ p1, p1 = uvarL f := ⟨_, rfl⟩
    obtain ⟨p2, hp2⟩ : ∃ p2, p2 = uvarL n := ⟨_, rfl⟩
    obtain ⟨p3, hp3⟩ : ∃ p3, p3 = p1 ++ p2 := ⟨_, rfl⟩
    have hp1l : p1.length ≤ 10 := by rw [hp1]; exact HUF.out
    have hp2l : p2.length ≤ 10 := by rw [hp2]; exact HUN.out
    have hp3l : p3.length ≤ 20 := by rw [hp3, List.length_append]; omega
    have HP1 := Lib.hid hp1.symm
    have HP2 := Lib.hid hp2.symm
    have HP3 := Lib.hid hp3.symm
    clear hq1 hp1 hp2 hp3 nf nn n64 hz
    go_enter Tryz.func54, Tryz.ntmps54
    go_wp2_with (go_at_call 90; go_loud (with_reducible refine (docCheckB_calls f _ rfl hf9 A n c es _ (h.new HB.out) HN.out HL.out X HX.out).mono ?_); rintro r3 w3 ⟨rfl, hb3⟩; have T3 := HT.out.new hb3; have B3 := Lib.hid (below_then HB.out hb3); have x0 := T3.c0; have x1 := T3.c1; have hz3 := T3.lt)
    have HWN := Lib.hid (show IntKind.u64.wrap (n : Int) = n from u64_nat n HL.out)
    have hn64 : n ≤ 18446744073709551615 := by have := H64.out; omega
    go_region_held3 (fun w' => w'.cell? ⟨w.heap.size, 0, none⟩ = some (.int .u64 f) ∧ w'.cell? ⟨w.heap.size, 1, none⟩ = some (.slice A n c)) (go_keep) (first
      | (go_at_call 91; (with_reducible refine (refuvarP f f rfl p1 HP1.out _ hf9).mono ?_); rintro e5 w5 ⟨A5, c5, rfl, hn5⟩; have T5 := (T3.new (below_drew _ _)).new hn5.below; have x0 := T5.c0; have x1 := T5.c1; have B5 := Lib.hid (below_then B3.out.drew hn5.below); have tkf := trivial)
      | (go_at_call 91; (with_reducible refine (refuvarP n _ (by first | rfl | exact HWN.out) p2 HP2.out _ hn64).mono ?_); rintro e5 w5 ⟨A5, c5, rfl, hn5⟩; have T5 := (T3.new (below_drew _ _)).new hn5.below; have x0 := T5.c0; have x1 := T5.c1; have B5 := Lib.hid (below_then B3.out.drew hn5.below); have tkn := trivial)
      | (go_at_call 91; (with_reducible refine (refuvarP f f rfl p1 HP1.out _ hf9).mono ?_); rintro e6 w6 ⟨A6, c6, rfl, hn6⟩; have T6 := T5.new hn6.below; have x0 := T6.c0; have x1 := T6.c1; have B6 := Lib.hid (below_then B5.out hn6.below); have r5 := hn5.own.rb.new hn6.below)
      | (go_at_call 91; (with_reducible refine (refuvarP n _ (by first | rfl | exact HWN.out) p2 HP2.out _ hn64).mono ?_); rintro e6 w6 ⟨A6, c6, rfl, hn6⟩; have T6 := T5.new hn6.below; have x0 := T6.c0; have x1 := T6.c1; have B6 := Lib.hid (below_then B5.out hn6.below); have r5 := hn5.own.rb.new hn6.below)
      | (go_at_call 30; (with_reducible refine (joinE A5 A6 p1 p2 p3 _ _ p3.length c5 c6 _ r5 hn6.own.rb rfl rfl rfl HP3.out (by omega)).mono ?_); rintro e7 w7 ⟨A7, c7, rfl, hn7⟩; have T7 := T6.new hn7.below; have x0 := T7.c0; have x1 := T7.c1; have hz7 := T7.lt; have B7 := Lib.hid (below_then B6.out hn7.below); have O7 := Lib.hid (hn7.own.mono B6.out.size))
      | (go_at_call 30; (with_reducible refine (joinE A6 A5 p1 p2 p3 _ _ p3.length c6 c5 _ hn6.own.rb r5 rfl rfl rfl HP3.out (by omega)).mono ?_); rintro e7 w7 ⟨A7, c7, rfl, hn7⟩; have T7 := T6.new hn7.below; have x0 := T7.c0; have x1 := T7.c1; have hz7 := T7.lt; have B7 := Lib.hid (below_then B6.out hn7.below); have O7 := Lib.hid (hn7.own.mono B6.out.size)))
    all_goals
      clear r5 hn7 hn6 hn5 T5 T6
      have HC4 : Hid (∀ i, ((ensOf (es.take i)).flatMap encL).length ≤ 21824) := Lib.hid (fun i => by
        have h5 := flat_le (ensOf (es.take i)) (fun x hx => HCK.out x (by unfold ensOf at hx ⊢; rw [List.mem_map] at hx ⊢; obtain ⟨y, hy, hz⟩ := hx; exact ⟨y, List.mem_of_mem_take hy, hz⟩))
        have h6 : (ensOf (es.take i)).length ≤ 64 := by have := HN.out; have := H64.out; simp [ensOf]; omega
        omega)
      have HCS : Hid (∀ o x, (o, x) ∈ es → o.K.length ≤ 64 ∧ o.V.length ≤ 256) := Lib.hid (fun o x hx => by have := chk_small o (HCK.out o (by unfold ensOf; rw [List.mem_map]; exact ⟨(o, x), hx, rfl⟩)); exact ⟨this.1, this.2.1⟩)
      go_wp2
      go_loopw [5, 7, 25] (fun pv _ iv wr => ∃ (i : Nat) (A1 : Option Addr) (c1 : Nat) (p : List UInt8), i ≤ n ∧ iv = .int .i64 i ∧ pv = .slice A1 p.length c1 ∧ Hid (p = p3 ++ (ensOf (es.take i)).flatMap encL) ∧ OB wr w.heap.size 5 (.slice A1 p.length c1) p ∧ Below w.heap.size w wr) (fun _ _ iv _ => n - (intOf iv).toNat)
      case atStart => exact ⟨0, A7, c7, p3, Nat.zero_le _, rfl, rfl, Lib.hid (by simp [ensOf]), O7.out, B7.out⟩
      case round =>
        obtain ⟨i, A1, c1, p, hi, rfl, rfl, HP, HO, HBI⟩ := hrel
        by_cases hlt : i < n
        · obtain ⟨a, o, x, rfl, ho, hmem, hok, k0, k1, k2⟩ := (h.new HBI).at_ i (by rw [← HN.out]; exact hlt)
          obtain ⟨hc5, hc6⟩ := HCS.out o x hmem
          obtain ⟨b, hb⟩ : ∃ b, b = encL o := ⟨_, rfl⟩
          obtain ⟨p9, hp9⟩ : ∃ p9, p9 = p ++ b := ⟨_, rfl⟩
          have hbl : b.length ≤ 341 := by have := encL_length o; rw [hb]; omega
          have hpl : p.length ≤ 21844 := by have := HC4.out i; rw [HP.out, List.length_append]; omega
          have HNX := Lib.hid (show p9 = p3 ++ (ensOf (es.take (i + 1))).flatMap encL by rw [ensOf_take es i o x ho, List.flatMap_append, hp9, HP.out, hb]; simp)
          have HBL := Lib.hid hb.symm
          have HP9 := Lib.hid hp9.symm
          have HB5 := Lib.hid (belowA HBI (.cells #[.int .u8 o.k, .slice x.KA o.K.length x.kc, .slice x.VA o.V.length x.vc] 72))
          have HO5 := Lib.hid (HO.rb.new (below_alloc1 (Below.refl _ _) (Nat.le_refl _) (.cells #[.int .u8 o.k, .slice x.KA o.K.length x.kc, .slice x.VA o.V.length x.vc] 72)))
          have HBY : ∀ w', EnOk w' o x → Calls Tryz.prog 92 #[.agg #[.int .u8 o.k, .slice x.KA o.K.length x.kc, .slice x.VA o.V.length x.vc]] w' fun r w'' => ∃ A' c', r = .returned (.slice A' b.length c') ∧ NewB w' w'' (.slice A' b.length c') b := fun w' h' => by
            have := bytesE_calls o x _ _ rfl rfl w' h' (by omega) _ rfl
            rw [HBL.out] at this; exact this
          have HBY := Lib.hid HBY
          clear ho hb hp9
          go_wp2_with (first
            | (go_at_call 92; go_loud (with_reducible refine (HBY.out _ (hok.new (below_alloc1 (Below.refl _ _) (Nat.le_refl _) _))).mono ?_); rintro e8 w8 ⟨A8, c8, rfl, hn8⟩; have B8 := Lib.hid (below_then HB5.out hn8.below))
            | (go_at_call 30; go_loud (with_reducible refine (joinE A1 A8 p b p9 _ _ p9.length c1 c8 _ (HO5.out.new hn8.below) hn8.own.rb rfl rfl rfl HP9.out (by omega)).mono ?_); rintro e9 w9 ⟨A9, c9, rfl, hn9⟩))
          go_roundw
          case rel => exact ⟨i + 1, A9, c9, p9, by omega, by go_num, rfl, HNX, hn9.own.mono B8.out.size, below_then B8.out hn9.below⟩
          case measure => simp [intOf]; omega
        · obtain rfl : i = n := by omega
          have hpq : p = q := by rw [HP.out, List.take_of_length_le (Nat.le_of_eq HN.out.symm), ← HQ1.out, ← HP3.out, ← HP1.out, ← HP2.out, List.append_assoc]
          subst hpq
          clear hlt HP
          go_wp2
          go_ret2
          exact ⟨A1, c1, rfl, HO, HBI⟩
  · have hb : ((X : Int) != 0) = true := by rw [bne_iff_ne]; omega
    have hq := HQ.out
    rw [if_neg hz] at hq
    injection hq with hq1 hq2
    subst hq1; subst hq2
    clear hz
    go_enter Tryz.func54, Tryz.ntmps54
    go_wp2_with (go_at_call 90; go_loud (with_reducible refine (docCheckB_calls f _ rfl hf9 A n c es _ (h.new HB.out) HN.out HL.out X HX.out).mono ?_); rintro r3 w3 ⟨rfl, hb3⟩; have B3 := Lib.hid (below_then HB.out hb3))
    go_ret2
    exact ⟨none, 0, rfl, OB.nil _ _ _, B3.out⟩
end Go.Proofs.YtpmnnnbkbcpgjaaGreatDoor
