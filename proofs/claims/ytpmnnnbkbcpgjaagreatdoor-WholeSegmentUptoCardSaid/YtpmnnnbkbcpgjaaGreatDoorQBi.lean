import Derived.Test.YtpmnnnbkbcpgjaaGreatDoorQSameEntry
import Derived.Lib.SmallJoins
import Derived.Test.YtpmnnnbkbcpgjaaGreatDoorQBc
import Derived.Test.YtpmnnnbkbcpgjaaGreatDoorQBb
import Derived.Deep.RegionLaw
import Derived.Deep.DrawnRows
/- Copies of lists of entries and of batches. -/
namespace Go.Proofs.YtpmnnnbkbcpgjaaGreatDoor
open Go.RowKit
open WireMath (numS beN rawS blobS uvarS grpL uvarL wideL)

theorem NewE.far {w w' : World} {e : En} {a : EnA} (h : NewE w w' e a) {base : Nat} (hb : base ≤ w.heap.size) {v : Value} (hv : ∀ k, v.ownBlock = some k → k < w.heap.size) : FarE base v (e, a) :=
  ⟨fun ad e' hp => by
    have := h.K.lo ad e' hp
    exact ⟨Nat.le_trans hb this, fun e9 => by have := hv _ e9; have h9 : w.heap.size ≤ ad.block := h.K.lo ad e' hp; omega⟩,
   fun ad e' hp => by
    have := h.V.lo ad e' hp
    exact ⟨Nat.le_trans hb this, fun e9 => by have := hv _ e9; have h9 : w.heap.size ≤ ad.block := h.V.lo ad e' hp; omega⟩⟩
def SmallEs (es : List EnX) : Prop := ∀ x ∈ es, x.1.K.length ≤ 140737488355328 ∧ x.1.V.length ≤ 140737488355328
theorem FarE.mono {lo lo' : Nat} {v : Value} {x : EnX} (h : FarE lo v x) (hb : lo' ≤ lo) : FarE lo' v x :=
  ⟨fun a e hp => ⟨Nat.le_trans hb (h.K a e hp).1, (h.K a e hp).2⟩, fun a e hp => ⟨Nat.le_trans hb (h.V a e hp).1, (h.V a e hp).2⟩⟩
theorem EL.mono {w : World} {base base' n : Nat} {v : Value} {es : List EnX} (h : EL w base v n es) (hb : base' ≤ base) : EL w base' v n es := ⟨Joins.ownsRow_le h.row hb, h.len, h.ok, fun x hx => (h.far x hx).mono hb⟩
theorem results_bat {fn : Func} {p : Tmp} (h : fn.results = #[.cell p 35]) (tmps : Array Value) (w : World) (b : Nat) (x y : Value) (hp : tmps.getD p undef = .pointer (some ⟨b, 0, none⟩)) (ht : Duo w b x y) :
    (results fn tmps).run Tryz.prog w = .ok (.agg #[x, y]) w := by
  have hp' : tmps[p]?.getD undef = .pointer (some ⟨b, 0, none⟩) := by simpa using hp
  have hl := run_loadVar_mid (P := Tryz.prog) w b 0 35 [x, y] _ (fun j v hj => by
    match j, hj with
    | 0, hj => simp at hj; subst hj; simpa using ht.c0
    | 1, hj => simp at hj; subst hj; simpa using ht.c1
    | j + 2, hj => simp at hj) Tryz.underlying35 rfl (by kernel_rfl)
  simp [results, h, hp', asAddr, hl]
set_option maxRecDepth 100000 in
theorem twinEs_calls (A : Option Addr) (es : List EnX) (n c : Nat) (w : World) (h : Ents w A es) (hn : n = es.length) (hl : n * 56 ≤ 140737488355328) (hs : SmallEs es) :
    Calls Tryz.prog 53 #[.slice A n c] w fun r w' => ∃ A' c' ds, r = .returned (.slice A' n c') ∧ EL w' w.heap.size (.slice A' n c') n ds ∧ ensOf ds = ensOf es ∧ Below w.heap.size w w' := by
  have HN := Lib.hid hn
  clear hn
  go_enter Tryz.func53, Tryz.ntmps53
  go_wp2
  go_loopw [3, 5, 8] (fun v _ iv wr => ∃ (j : Nat) (A1 : Option Addr) (c1 : Nat) (ds : List EnX), j ≤ n ∧ iv = .int .i64 j ∧ v = .slice A1 j c1 ∧ EL wr w.heap.size (.slice A1 j c1) j ds ∧ ensOf ds = ensOf (es.take j) ∧ Below w.heap.size w wr) (fun _ _ iv _ => n - (intOf iv).toNat)
  case atStart => exact ⟨0, none, 0, [], Nat.zero_le _, rfl, rfl, EL.nil _ _, by simp [ensOf], Below.refl _ _⟩
  case round =>
    obtain ⟨j, A1, c1, ds, hj, rfl, rfl, HEL, hds, HBB⟩ := hrel
    by_cases hlt : j < n
    · obtain ⟨a, o, x, rfl, ho, hmem, hok, k0, k1, k2⟩ := (h.new HBB).at_ j (by rw [← HN.out]; exact hlt)
      obtain ⟨s1, s2⟩ := hs _ hmem
      have HB5 := Lib.hid (belowA HBB (.cells #[.int .u8 o.k, .slice x.KA o.K.length x.kc, .slice x.VA o.V.length x.vc] 72))
      have HT5 := Lib.hid (Trio.fresh wr wr.heap.size rfl (.int .u8 o.k) (.slice x.KA o.K.length x.kc) (.slice x.VA o.V.length x.vc) 72)
      have HEL5 := Lib.hid (HEL.new (below_alloc1 (Below.refl _ _) (Nat.le_refl _) (.cells #[.int .u8 o.k, .slice x.KA o.K.length x.kc, .slice x.VA o.V.length x.vc] 72)))
      have HDS := Lib.hid (show ensOf (ds ++ [(o, x)]) = ensOf (es.take (j + 1)) by rw [ensOf_take es j o x ho, ← hds]; simp [ensOf])
      have HROW := Lib.hid HEL5.out.lt
      have hk := hok.k
      clear ho hds
      go_wp2_with (first
        | (go_at_call 89; go_loud ((with_reducible refine (twinEntry_calls o x _ _ rfl rfl _ (hok.new (below_alloc1 (Below.refl _ _) (Nat.le_refl _) _)) s1 s2).mono ?_)); rintro e5 w5 ⟨a5, rfl, hn5⟩; have B5 := Lib.hid (below_then HB5.out hn5.below); have L5 := Lib.hid (HEL5.out.new hn5.below); have R5 := Lib.hid (hn5.far (base := w.heap.size) (v := .slice A1 j c1) HB5.out.size (fun k e9 => (HROW.out k e9).2)); have E5 := Lib.hid (hn5.ok hk))
        | (refine wp_appendE ent rfl (.tmp 12) (.tmp 15) rfl w.heap.size (.slice A1 j c1) j ds rfl (L5.out.new (below_alloc1 (Below.refl _ _) (Nat.le_refl _) (.cells #[.int .u8 o.k, .slice a5.KA o.K.length a5.kc, .slice a5.VA o.V.length a5.vc] 72))) (o, a5) ⟨w5.heap.size, 0, Option.none⟩ rfl (tri_at w5 _ _ _ _).1 (tri_at w5 _ _ _ _).2.1 (tri_at w5 _ _ _ _).2.2 (E5.out.new (below_alloc1 (Below.refl _ _) (Nat.le_refl _) (.cells #[.int .u8 o.k, .slice a5.KA o.K.length a5.kc, .slice a5.VA o.V.length a5.vc] 72))) R5.out (by omega) (belowA B5.out (.cells #[.int .u8 o.k, .slice a5.KA o.K.length a5.kc, .slice a5.VA o.V.length a5.vc] 72)).size fun A' c' w7 hl7 hg7 => ?_; have B7 := Lib.hid ((belowA B5.out (.cells #[.int .u8 o.k, .slice a5.KA o.K.length a5.kc, .slice a5.VA o.V.length a5.vc] 72)).grown hg7 (belowA B5.out (.cells #[.int .u8 o.k, .slice a5.KA o.K.length a5.kc, .slice a5.VA o.V.length a5.vc] 72)).size (fun k e9 => (HROW.out _ e9).1))))
      go_roundw
      case rel => exact ⟨j + 1, A', c', ds ++ [(o, a5)], by omega, by go_num, rfl, hl7, by rw [← HDS.out]; simp [ensOf], B7.out⟩
      case measure => simp [intOf]; omega
    · obtain rfl : j = n := by omega
      clear hlt
      rw [List.take_of_length_le (Nat.le_of_eq HN.out.symm)] at hds
      go_wp2
      go_ret
      exact ⟨A1, c1, ds, rfl, HEL, hds, HBB⟩
set_option maxRecDepth 100000 in
theorem twinB_calls (f : Nat) (A : Option Addr) (es : List EnX) (n c : Nat) (w : World) (h : Ents w A es) (hn : n = es.length) (hl : n * 56 ≤ 140737488355328) (hs : SmallEs es) :
    Calls Tryz.prog 21 #[.agg #[.int .u64 f, .slice A n c]] w fun r w' => ∃ A' c' ds, r = .returned (.agg #[.int .u64 f, .slice A' n c']) ∧ EL w' w.heap.size (.slice A' n c') n ds ∧ ensOf ds = ensOf es ∧ Below w.heap.size w w' := by
  have HB := Lib.hid (belowA (below_alloc1 (Below.refl w.heap.size w) (Nat.le_refl _) (.cells #[.int .u64 f, .slice A n c] 35)) (.cells #[.int .u64 0, .slice none 0 0] 35))
  have HT := Lib.hid ((Duo.fresh w w.heap.size rfl (.int .u64 f) (.slice A n c) 35).new (below_alloc1 (Below.refl _ _) (Nat.le_refl _) (.cells #[.int .u64 0, .slice none 0 0] 35)))
  have HS := Lib.hid (Duo.fresh (w.alloc (.cells #[.int .u64 f, .slice A n c] 35)) (w.heap.size + 1) (asz _ _) (.int .u64 0) (.slice none 0 0) 35)
  have x0 := HT.out.c0
  have x1 := HT.out.c1
  have HH := Lib.hid (h.new HB.out)
  have HN := Lib.hid hn
  clear hn
  go_enter Tryz.func21, Tryz.ntmps21
  go_wp2
  go_region_held3 (fun w' => w'.cell? ⟨w.heap.size, 0, none⟩ = some (.int .u64 f) ∧ w'.cell? ⟨w.heap.size, 1, none⟩ = some (.slice A n c)) (go_keep) (first | (go_at_call 53; go_loud ((with_reducible refine (twinEs_calls A es n c _ (HH.out.new (below_drew _ _)) HN.out hl hs).mono ?_)); rintro e3 w3 ⟨A3, c3, ds, rfl, hl3, hd3, hb3⟩; have T3 := (HT.out.new (below_drew _ _)).new hb3; have S3 := (HS.out.new (below_drew _ _)).new hb3; have hz3 := S3.lt; have x0 := T3.c0; have x1 := T3.c1; have s0 := S3.c0; have s1 := S3.c1; have f0 := S3.fz 0; have f1 := S3.fz 1; have B3 := Lib.hid (below_then HB.out.drew hb3)))
  all_goals
    go_wp2
    have hle : w.heap.size + 1 + 1 ≤ (((w.alloc (.cells #[.int .u64 f, .slice A n c] 35)).alloc (.cells #[.int .u64 0, .slice none 0 0] 35)).drew).heap.size := Nat.le_of_eq (asz2 _ _ _).symm
    exact bodyPost_ret (results_bat rfl _ _ (w.heap.size + 1) _ _ rfl ((S3.set0 (.int .u64 f)).set1 (.slice A3 n c3))) rfl ⟨A3, c3, ds, rfl, ((hl3.setLow (by omega)).setLow (by omega)).mono (by omega), hd3, ((B3.out).setCell (by show w.heap.size ≤ w.heap.size + 1; omega) _).setCell (by show w.heap.size ≤ w.heap.size + 1; omega) _⟩
end Go.Proofs.YtpmnnnbkbcpgjaaGreatDoor

/- The walks of notaryref05.DocCheckBatch and DocEncodeBatch. -/
namespace Go.Proofs.YtpmnnnbkbcpgjaaGreatDoor
open Go.RowKit
open WireMath (numS beN rawS blobS uvarS grpL uvarL wideL)

theorem chkF_val (e : En) : chkF e = 0 ∨ chkF e = 2 ∨ chkF e = 3 := by
  unfold chkF
  split
  · exact .inr (.inl rfl)
  · split
    · exact .inr (.inr rfl)
    · exact .inl rfl
theorem leastF_03 (a b : Nat) (ha : a = 0 ∨ a = 3) (hb : b = 0 ∨ b = 3) : leastF a b = max a b ∧ (leastF a b = 0 ∨ leastF a b = 3) := by
  rcases ha with rfl | rfl <;> rcases hb with rfl | rfl <;> decide
theorem leastF_2r (a : Nat) (ha : a = 0 ∨ a = 3) : leastF a 2 = 2 := by
  rcases ha with rfl | rfl <;> decide
theorem fold2 (l : List En) : l.foldl (fun e x => leastF e (chkF x)) 2 = 2 := by
  induction l with
  | nil => rfl
  | cons y l ih =>
    rw [List.foldl_cons]
    have : leastF 2 (chkF y) = 2 := by rcases chkF_val y with h | h | h <;> rw [h] <;> decide
    rw [this]; exact ih
theorem errB_big (f n : Nat) (l : List En) (h : 64 < n) : errB f n l = 2 := by
  unfold errB
  have : err0 f n = 2 := by
    unfold err0
    rw [if_pos h]
    split <;> decide
  rw [this]; exact fold2 l
theorem errB_at (f n : Nat) (l : List En) (j : Nat) (e : Nat) (x : En) (he : e = (l.take j).foldl (fun e x => leastF e (chkF x)) (err0 f n)) (hx : l[j]? = some x) (h0 : e = 0 ∨ e = 3) (hc : chkF x = 2) : errB f n l = 2 := by
  obtain ⟨hj, hx'⟩ := List.getElem?_eq_some_iff.1 hx
  unfold errB
  have h1 : l = l.take j ++ x :: l.drop (j + 1) := by
    rw [← hx', List.getElem_cons_drop]
    exact (List.take_append_drop j l).symm
  rw [h1, List.foldl_append, List.foldl_cons, ← he, hc, leastF_2r e h0]
  exact fold2 _
theorem ensOf_get (es : List EnX) (j : Nat) (o : En) (x : EnA) (h : es[j]? = some (o, x)) : (ensOf es)[j]? = some o := by
  unfold ensOf; rw [List.getElem?_map, h]; rfl
theorem ensOf_takeN (es : List EnX) (j : Nat) : ensOf (es.take j) = (ensOf es).take j := by
  unfold ensOf; rw [List.map_take]
theorem dfits_calls (f n : Nat) (F : Int) (hF : F = f) (hf : f ≤ 18446744073709551615) (hn : n ≤ 9223372036854775807) (w : World) (r : Bool) (hr : decide (f + n < 18446744073709551616) = r) :
    Calls Tryz.prog 113 #[.int .u64 F, .int .i64 n] w fun e w' => e = .returned (.bool r) ∧ w = w' := by
  subst hF
  have hc : IntKind.u64.wrap (n : Int) = n := u64_nat n hn
  go_enter Tryz.func113, Tryz.ntmps113
  go_wp2
  go_ret
  refine ⟨ret_bool ?_, rfl⟩
  subst hr
  have e1 : IntKind.u64.wrap ((f : Int) + n) = ((f + n) % 18446744073709551616 : Nat) := by rw [IntKind.wrap_u64]; omega
  first
    | rw [e1]
    | skip
  simp only [decide_eq_decide]
  omega
set_option maxHeartbeats 1000000 in
set_option maxRecDepth 100000 in
theorem docCheckB_calls (f : Nat) (V : Int) (hV : V = f) (hf : f ≤ 18446744073709551615) (A : Option Addr) (n c : Nat) (es : List EnX) (w : World) (h : Ents w A es) (hn : n = es.length) (hl : n ≤ 9223372036854775807) (X : Nat) (hX : X = errB f n (ensOf es)) :
    Calls Tryz.prog 90 #[.agg #[.int .u64 V, .slice A n c]] w fun r w' => r = .returned (.int .i64 X) ∧ Below w.heap.size w w' := by
  subst hV
  have HB := Lib.hid (below_alloc1 (Below.refl w.heap.size w) (Nat.le_refl _) (.cells #[.int .u64 f, .slice A n c] 35))
  have HT := Lib.hid (Duo.fresh w w.heap.size rfl (.int .u64 f) (.slice A n c) 35)
  have HX := Lib.hid hX
  have HN := Lib.hid hn
  have HL := Lib.hid hl
  have hf9 : f ≤ 18446744073709551615 := hf
  clear hX hn
  have hcase : (64 < n ∧ decide ((64 : Int) < (n : Int)) = true) ∨ (¬ 64 < n ∧ decide ((64 : Int) < (n : Int)) = false) := by
    by_cases h : 64 < n
    · exact .inl ⟨h, by rw [decide_eq_true_eq]; omega⟩
    · exact .inr ⟨h, by rw [decide_eq_false_iff_not]; omega⟩
  have hcase2 : (n = 0 ∧ ((n : Int) == 0) = true) ∨ (n ≠ 0 ∧ ((n : Int) == 0) = false ∧ f + n < 18446744073709551616) ∨ (n ≠ 0 ∧ ((n : Int) == 0) = false ∧ 18446744073709551616 ≤ f + n) := by
    by_cases h : n = 0
    · exact .inl ⟨h, by rw [beq_iff_eq]; omega⟩
    · by_cases h' : f + n < 18446744073709551616
      · exact .inr (.inl ⟨h, by rw [beq_eq_false_iff_ne]; omega, h'⟩)
      · exact .inr (.inr ⟨h, by rw [beq_eq_false_iff_ne]; omega, by omega⟩)
  rcases hcase with ⟨g1, b1⟩ | ⟨g1, b1⟩
  · have HX2 := Lib.hid (show (2 : Int) = (X : Nat) by rw [HX.out, errB_big _ _ _ g1]; rfl)
    clear HX
    rcases hcase2 with ⟨g2, b2⟩ | ⟨g2, b2, g3⟩ | ⟨g2, b2, g3⟩
    · omega
    all_goals
      first
        | (have HFB := Lib.hid (show decide (f + n < 18446744073709551616) = true by rw [decide_eq_true_eq]; omega))
        | (have HFB := Lib.hid (show decide (f + n < 18446744073709551616) = false by rw [decide_eq_false_iff_not]; omega))
      clear g1 g2 g3
      go_enter Tryz.func90, Tryz.ntmps90
      go_wp2_with (go_at_call 113; go_loud (with_reducible refine (dfits_calls f n _ rfl hf9 HL.out _ _ HFB.out).mono ?_); rintro r5 w5 ⟨rfl, rfl⟩)
      go_ret
      exact ⟨by rw [HX2.out]; rfl, HB.out⟩
  · obtain ⟨e0, he0⟩ : ∃ e0, e0 = err0 f n := ⟨_, rfl⟩
    have HE0 := Lib.hid he0
    have hE : ((n = 0 ∨ 18446744073709551616 ≤ f + n) → e0 = 3) ∧ (¬ (n = 0 ∨ 18446744073709551616 ≤ f + n) → e0 = 0) := by
      refine ⟨fun h => ?_, fun h => ?_⟩
      · rw [he0]; unfold err0; rw [if_pos h, if_neg g1]; decide
      · rw [he0]; unfold err0; rw [if_neg h, if_neg g1]
    clear he0
    rcases hcase2 with ⟨g2, b2⟩ | ⟨g2, b2, g3⟩ | ⟨g2, b2, g3⟩
    all_goals
      first
        | (have H00 := Lib.hid (hE.1 (.inl g2)); have HFB : Hid (decide (f + n < 18446744073709551616) = decide (f + n < 18446744073709551616)) := Lib.hid rfl)
        | (have H00 := Lib.hid (hE.2 (by omega)); have HFB := Lib.hid (show decide (f + n < 18446744073709551616) = true by rw [decide_eq_true_eq]; omega))
        | (have H00 := Lib.hid (hE.1 (.inr g3)); have HFB := Lib.hid (show decide (f + n < 18446744073709551616) = false by rw [decide_eq_false_iff_not]; omega))
      have H03 : Hid (e0 = 0 ∨ e0 = 3) := Lib.hid (by rw [H00.out]; decide)
      clear hE g1 g2
      try clear g3
      go_enter Tryz.func90, Tryz.ntmps90
      go_wp2_with (go_at_call 113; go_loud (with_reducible refine (dfits_calls f n _ rfl hf9 HL.out _ _ HFB.out).mono ?_); rintro r5 w5 ⟨rfl, rfl⟩)
      go_loopw [3, 5, 6, 27] (fun ev _ _ iv wr => ∃ (j e : Nat), j ≤ n ∧ iv = .int .i64 j ∧ ev = .int .i64 e ∧ Hid (e = ((ensOf es).take j).foldl (fun e x => leastF e (chkF x)) e0) ∧ Hid (e = 0 ∨ e = 3) ∧ Ents wr A es ∧ Below w.heap.size w wr) (fun _ _ _ iv _ => n - (intOf iv).toNat)
      case atStart => exact ⟨0, e0, Nat.zero_le _, rfl, by rw [H00.out]; rfl, Lib.hid rfl, H03, h.new HB.out, HB.out⟩
      case round =>
        obtain ⟨j, e, hj, rfl, rfl, HEQ, HE3, HES, HBB⟩ := hrel
        by_cases hlt : j < n
        · obtain ⟨a, o, x, rfl, ho, hmem, hok, k0, k1, k2⟩ := HES.at_ j (by rw [← HN.out]; exact hlt)
          have ho' := ensOf_get es j o x ho
          obtain ⟨ch, hch⟩ : ∃ ch, ch = chkF o := ⟨_, rfl⟩
          have HCH := Lib.hid hch.symm
          have HT5 := Lib.hid (Trio.fresh wr wr.heap.size rfl (.int .u8 o.k) (.slice x.KA o.K.length x.kc) (.slice x.VA o.V.length x.vc) 72)
          have HB5 := Lib.hid (belowA HBB (.cells #[.int .u8 o.k, .slice x.KA o.K.length x.kc, .slice x.VA o.V.length x.vc] 72))
          have hz5 := HT5.out.lt
          by_cases h2 : ch = 2
          · have HX2 := Lib.hid (show (2 : Int) = (X : Nat) by rw [HX.out, errB_at f n (ensOf es) j e o (by rw [HEQ.out, HE0.out]) ho' HE3.out (by rw [HCH.out, h2])]; rfl)
            have hb2 : ((ch : Int) == 2) = true := by rw [beq_iff_eq]; omega
            clear h2 hch ho ho' HEQ
            go_wp2_with (go_at_call 138; go_loud (with_reducible refine (docCheckN o x.KA x.VA o.K.length o.V.length x.kc x.vc _ rfl rfl ch (congrArg _ HCH.out)).mono ?_); rintro r7 w7 ⟨rfl, hb7⟩; have hb7' := Lib.hid hb7)
            go_ret
            exact ⟨by rw [HX2.out]; rfl, below_then HB5.out hb7'.out⟩
          · have hb2 : ((ch : Int) == 2) = false := by rw [beq_eq_false_iff_ne]; omega
            obtain ⟨m1, m2⟩ := leastF_03 e ch HE3.out (by rcases chkF_val o with h | h | h <;> omega)
            obtain ⟨e9, he9⟩ : ∃ e9, e9 = leastF e ch := ⟨_, rfl⟩
            have HNX := Lib.hid (show e9 = ((ensOf es).take (j + 1)).foldl (fun e x => leastF e (chkF x)) e0 by
              obtain ⟨q1, q2⟩ := List.getElem?_eq_some_iff.1 ho'
              rw [List.take_succ_eq_append_getElem q1, q2, List.foldl_append, ← HEQ.out, he9, hch]; rfl)
            have HMX := Lib.hid (show ((max e ch : Nat) : Int) = e9 by rw [← m1, he9])
            have HM3 : Hid (e9 = 0 ∨ e9 = 3) := Lib.hid (by rw [he9]; exact m2)
            clear h2 hch ho ho' HEQ he9 m1 m2
            go_wp2_with (go_at_call 138; go_loud (with_reducible refine (docCheckN o x.KA x.VA o.K.length o.V.length x.kc x.vc _ rfl rfl ch (congrArg _ HCH.out)).mono ?_); rintro r7 w7 ⟨rfl, hb7⟩; have hb7' := Lib.hid hb7)
            go_roundw
            case rel => exact ⟨j + 1, e9, by omega, by go_num, by rw [← HMX.out]; first | rfl | (congr 1; omega), HNX, HM3, (HES.new (below_alloc1 (Below.refl _ _) (Nat.le_refl _) _)).new hb7'.out, below_then HB5.out hb7'.out⟩
            case measure => simp [intOf]; omega
        · obtain rfl : j = n := by omega
          have hXe : e = X := by rw [HX.out, HEQ.out, List.take_of_length_le (by have := HN.out; simp [ensOf]; omega)]; unfold errB; rw [HE0.out]
          subst hXe
          clear hlt HEQ
          go_wp2
          go_ret
          exact ⟨rfl, HBB⟩
theorem refuvarP (v : Nat) (V : Int) (hV : V = v) (p : List UInt8) (hp : uvarL v = p) (w : World) (hv : v ≤ 18446744073709551615) :
    Calls Tryz.prog 91 #[.int .u64 V] w fun e w' => ∃ A' c', e = .returned (.slice A' p.length c') ∧ NewB w w' (.slice A' p.length c') p := by
  subst hp; exact refuvar_calls v V hV w hv
set_option maxHeartbeats 1000000 in
set_option maxRecDepth 100000 in
theorem docEncB_calls (f : Nat) (V : Int) (hV : V = f) (hf : f ≤ 18446744073709551615) (A : Option Addr) (n c : Nat) (es : List EnX) (w : World) (h : Ents w A es) (hn : n = es.length) (hl : n ≤ 9223372036854775807) (q : List UInt8) (eE : Nat) (hq : encBF f (ensOf es) = (q, eE)) :
    Calls Tryz.prog 54 #[.agg #[.int .u64 V, .slice A n c]] w fun r w' => ∃ A' c', r = .returned (.tuple #[.slice A' q.length c', .int .i64 eE]) ∧ NewB w w' (.slice A' q.length c') q := by
  subst hV
  have hen : (ensOf es).length = n := by rw [hn]; simp [ensOf]
  have HB := Lib.hid (below_alloc1 (Below.refl w.heap.size w) (Nat.le_refl _) (.cells #[.int .u64 f, .slice A n c] 35))
  have HT := Lib.hid (Duo.fresh w w.heap.size rfl (.int .u64 f) (.slice A n c) 35)
  have HN := Lib.hid hn
  have HL := Lib.hid hl
  have HEN := Lib.hid hen
  have hf9 : f ≤ 18446744073709551615 := hf
  obtain ⟨X, hX⟩ : ∃ X : Nat, X = errB f n (ensOf es) := ⟨_, rfl⟩
  have HX := Lib.hid hX
  have hq' := hq
  unfold encBF at hq'
  rw [hen, ← hX] at hq'
  have HQ := Lib.hid hq'
  have x0 := HT.out.c0
  have x1 := HT.out.c1
  clear hX hn hen hq hq'
  by_cases hz : X = 0
  · have hb : ((X : Int) != 0) = false := by rw [bne_eq_false_iff_eq]; omega
    have hq := HQ.out
    rw [if_pos hz] at hq
    injection hq with hq1 hq2
    subst hq2
    obtain ⟨nf, nn, n64⟩ := err0_zero f n (by have := HX.out; rw [hz] at this; unfold errB at this; exact (fold_zero _ _ this.symm).1)
    have HCK : Hid (∀ x ∈ ensOf es, chkF x = 0) := Lib.hid (by have := HX.out; rw [hz] at this; unfold errB at this; exact (fold_zero _ _ this.symm).2)
    have H64 := Lib.hid n64
    unfold encBL at hq1
    rw [HEN.out] at hq1
    have HQ1 := Lib.hid hq1
    have HUF := Lib.hid (WireMath.uvarL_length f)
    have HUN := Lib.hid (WireMath.uvarL_length n)
    obtain ⟨p1, hp1⟩ : ∃ p1, p1 = uvarL f := ⟨_, rfl⟩
    obtain ⟨p2, hp2⟩ : ∃ p2, p2 = uvarL n := ⟨_, rfl⟩
    obtain ⟨p3, hp3⟩ : ∃ p3, p3 = p1 ++ p2 := ⟨_, rfl⟩
    have hp1l : p1.length ≤ 10 := by rw [hp1]; exact HUF.out
    have hp2l : p2.length ≤ 10 := by rw [hp2]; exact HUN.out
    have hp3l : p3.length ≤ 20 := by rw [hp3, List.length_append]; omega
    have HP1 := Lib.hid hp1.symm
    have HP2 := Lib.hid hp2.symm
    have HP3 := Lib.hid hp3.symm
    clear hq1 hp1 hp2 hp3 nf nn n64 hz
    go_enter Tryz.func54, Tryz.ntmps54
    go_wp2_with (go_at_call 90; go_loud (with_reducible refine (docCheckB_calls f _ rfl hf9 A n c es _ (h.new HB.out) HN.out HL.out X HX.out).mono ?_); rintro r3 w3 ⟨rfl, hb3⟩; have T3 := HT.out.new hb3; have B3 := Lib.hid (below_then HB.out hb3); have x0 := T3.c0; have x1 := T3.c1; have hz3 := T3.lt)
    have HWN := Lib.hid (show IntKind.u64.wrap (n : Int) = n from u64_nat n HL.out)
    have hn64 : n ≤ 18446744073709551615 := by have := H64.out; omega
    go_region_held3 (fun w' => w'.cell? ⟨w.heap.size, 0, none⟩ = some (.int .u64 f) ∧ w'.cell? ⟨w.heap.size, 1, none⟩ = some (.slice A n c)) (go_keep) (first
      | (go_at_call 91; (with_reducible refine (refuvarP f f rfl p1 HP1.out _ hf9).mono ?_); rintro e5 w5 ⟨A5, c5, rfl, hn5⟩; have T5 := (T3.new (below_drew _ _)).new hn5.below; have x0 := T5.c0; have x1 := T5.c1; have B5 := Lib.hid (below_then B3.out.drew hn5.below); have tkf := trivial)
      | (go_at_call 91; (with_reducible refine (refuvarP n _ (by first | rfl | exact HWN.out) p2 HP2.out _ hn64).mono ?_); rintro e5 w5 ⟨A5, c5, rfl, hn5⟩; have T5 := (T3.new (below_drew _ _)).new hn5.below; have x0 := T5.c0; have x1 := T5.c1; have B5 := Lib.hid (below_then B3.out.drew hn5.below); have tkn := trivial)
      | (go_at_call 91; (with_reducible refine (refuvarP f f rfl p1 HP1.out _ hf9).mono ?_); rintro e6 w6 ⟨A6, c6, rfl, hn6⟩; have T6 := T5.new hn6.below; have x0 := T6.c0; have x1 := T6.c1; have B6 := Lib.hid (below_then B5.out hn6.below); have r5 := hn5.own.rb.new hn6.below)
      | (go_at_call 91; (with_reducible refine (refuvarP n _ (by first | rfl | exact HWN.out) p2 HP2.out _ hn64).mono ?_); rintro e6 w6 ⟨A6, c6, rfl, hn6⟩; have T6 := T5.new hn6.below; have x0 := T6.c0; have x1 := T6.c1; have B6 := Lib.hid (below_then B5.out hn6.below); have r5 := hn5.own.rb.new hn6.below)
      | (go_at_call 30; (with_reducible refine (joinE A5 A6 p1 p2 p3 _ _ p3.length c5 c6 _ r5 hn6.own.rb rfl rfl rfl HP3.out (by omega)).mono ?_); rintro e7 w7 ⟨A7, c7, rfl, hn7⟩; have T7 := T6.new hn7.below; have x0 := T7.c0; have x1 := T7.c1; have hz7 := T7.lt; have B7 := Lib.hid (below_then B6.out hn7.below); have O7 := Lib.hid (hn7.own.mono B6.out.size))
      | (go_at_call 30; (with_reducible refine (joinE A6 A5 p1 p2 p3 _ _ p3.length c6 c5 _ hn6.own.rb r5 rfl rfl rfl HP3.out (by omega)).mono ?_); rintro e7 w7 ⟨A7, c7, rfl, hn7⟩; have T7 := T6.new hn7.below; have x0 := T7.c0; have x1 := T7.c1; have hz7 := T7.lt; have B7 := Lib.hid (below_then B6.out hn7.below); have O7 := Lib.hid (hn7.own.mono B6.out.size)))
    all_goals
      clear r5 hn7 hn6 hn5 T5 T6
      have HC4 : Hid (∀ i, ((ensOf (es.take i)).flatMap encL).length ≤ 21824) := Lib.hid (fun i => by
        have h5 := flat_le (ensOf (es.take i)) (fun x hx => HCK.out x (by unfold ensOf at hx ⊢; rw [List.mem_map] at hx ⊢; obtain ⟨y, hy, hz⟩ := hx; exact ⟨y, List.mem_of_mem_take hy, hz⟩))
        have h6 : (ensOf (es.take i)).length ≤ 64 := by have := HN.out; have := H64.out; simp [ensOf]; omega
        omega)
      have HCS : Hid (∀ o x, (o, x) ∈ es → o.K.length ≤ 64 ∧ o.V.length ≤ 256) := Lib.hid (fun o x hx => by have := chk_small o (HCK.out o (by unfold ensOf; rw [List.mem_map]; exact ⟨(o, x), hx, rfl⟩)); exact ⟨this.1, this.2.1⟩)
      go_wp2
      go_loopw [5, 7, 25] (fun pv _ iv wr => ∃ (i : Nat) (A1 : Option Addr) (c1 : Nat) (p : List UInt8), i ≤ n ∧ iv = .int .i64 i ∧ pv = .slice A1 p.length c1 ∧ Hid (p = p3 ++ (ensOf (es.take i)).flatMap encL) ∧ OB wr w.heap.size 5 (.slice A1 p.length c1) p ∧ Below w.heap.size w wr) (fun _ _ iv _ => n - (intOf iv).toNat)
      case atStart => exact ⟨0, A7, c7, p3, Nat.zero_le _, rfl, rfl, Lib.hid (by simp [ensOf]), O7.out, B7.out⟩
      case round =>
        obtain ⟨i, A1, c1, p, hi, rfl, rfl, HP, HO, HBI⟩ := hrel
        by_cases hlt : i < n
        · obtain ⟨a, o, x, rfl, ho, hmem, hok, k0, k1, k2⟩ := (h.new HBI).at_ i (by rw [← HN.out]; exact hlt)
          obtain ⟨hc5, hc6⟩ := HCS.out o x hmem
          obtain ⟨b, hb⟩ : ∃ b, b = encL o := ⟨_, rfl⟩
          obtain ⟨p9, hp9⟩ : ∃ p9, p9 = p ++ b := ⟨_, rfl⟩
          have hbl : b.length ≤ 341 := by have := encL_length o; rw [hb]; omega
          have hpl : p.length ≤ 21844 := by have := HC4.out i; rw [HP.out, List.length_append]; omega
          have HNX := Lib.hid (show p9 = p3 ++ (ensOf (es.take (i + 1))).flatMap encL by rw [ensOf_take es i o x ho, List.flatMap_append, hp9, HP.out, hb]; simp)
          have HBL := Lib.hid hb.symm
          have HP9 := Lib.hid hp9.symm
          have HB5 := Lib.hid (belowA HBI (.cells #[.int .u8 o.k, .slice x.KA o.K.length x.kc, .slice x.VA o.V.length x.vc] 72))
          have HO5 := Lib.hid (HO.rb.new (below_alloc1 (Below.refl _ _) (Nat.le_refl _) (.cells #[.int .u8 o.k, .slice x.KA o.K.length x.kc, .slice x.VA o.V.length x.vc] 72)))
          have HBY : ∀ w', EnOk w' o x → Calls Tryz.prog 92 #[.agg #[.int .u8 o.k, .slice x.KA o.K.length x.kc, .slice x.VA o.V.length x.vc]] w' fun r w'' => ∃ A' c', r = .returned (.slice A' b.length c') ∧ NewB w' w'' (.slice A' b.length c') b := fun w' h' => by
            have := bytesE_calls o x _ _ rfl rfl w' h' (by omega) _ rfl
            rw [HBL.out] at this; exact this
          have HBY := Lib.hid HBY
          clear ho hb hp9
          go_wp2_with (first
            | (go_at_call 92; go_loud (with_reducible refine (HBY.out _ (hok.new (below_alloc1 (Below.refl _ _) (Nat.le_refl _) _))).mono ?_); rintro e8 w8 ⟨A8, c8, rfl, hn8⟩; have B8 := Lib.hid (below_then HB5.out hn8.below))
            | (go_at_call 30; go_loud (with_reducible refine (joinE A1 A8 p b p9 _ _ p9.length c1 c8 _ (HO5.out.new hn8.below) hn8.own.rb rfl rfl rfl HP9.out (by omega)).mono ?_); rintro e9 w9 ⟨A9, c9, rfl, hn9⟩))
          go_roundw
          case rel => exact ⟨i + 1, A9, c9, p9, by omega, by go_num, rfl, HNX, hn9.own.mono B8.out.size, below_then B8.out hn9.below⟩
          case measure => simp [intOf]; omega
        · obtain rfl : i = n := by omega
          have hpq : p = q := by rw [HP.out, List.take_of_length_le (Nat.le_of_eq HN.out.symm), ← HQ1.out, ← HP3.out, ← HP1.out, ← HP2.out, List.append_assoc]
          subst hpq
          clear hlt HP
          go_wp2
          go_ret2
          exact ⟨A1, c1, rfl, HO, HBI⟩
  · have hb : ((X : Int) != 0) = true := by rw [bne_iff_ne]; omega
    have hq := HQ.out
    rw [if_neg hz] at hq
    injection hq with hq1 hq2
    subst hq1; subst hq2
    clear hz
    go_enter Tryz.func54, Tryz.ntmps54
    go_wp2_with (go_at_call 90; go_loud (with_reducible refine (docCheckB_calls f _ rfl hf9 A n c es _ (h.new HB.out) HN.out HL.out X HX.out).mono ?_); rintro r3 w3 ⟨rfl, hb3⟩; have B3 := Lib.hid (below_then HB.out hb3))
    go_ret2
    exact ⟨none, 0, rfl, OB.nil _ _ _, B3.out⟩
end Go.Proofs.YtpmnnnbkbcpgjaaGreatDoor

/- The walks of the reference of layer 5: failed, Take. -/
namespace Go.Proofs.YtpmnnnbkbcpgjaaGreatDoor
open Go.RowKit
open WireMath (numS beN rawS blobS uvarS grpL uvarL wideL)

def failE (e f : Nat) : Nat := if e = 0 then f else e
set_option maxRecDepth 100000 in
theorem failed_calls (A : Option Addr) (n c : Nat) (T F : Int) (e f : Nat) (hF : F = f) (E : Int) (hE : E = e) (w : World) :
    Calls Tryz.prog 112 #[.agg #[.slice A n c, .int .i64 T, .int .i64 E], .int .i64 F] w fun r w' => r = .returned (.agg #[.slice A n c, .int .i64 T, .int .i64 (failE e f)]) ∧ Below w.heap.size w w' := by
  subst hF; subst hE
  have HB := Lib.hid (belowA (below_alloc1 (Below.refl w.heap.size w) (Nat.le_refl _) (.cells #[.slice A n c, .int .i64 T, .int .i64 e] 162)) (.cells #[.slice none 0 0, .int .i64 0, .int .i64 0] 162))
  by_cases he : e = 0
  · have hb : ((e : Int) == 0) = true := by rw [beq_iff_eq]; omega
    have HX := Lib.hid (show (f : Int) = (failE e f : Nat) by unfold failE; rw [if_pos he])
    clear he
    go_enter Tryz.func112, Tryz.ntmps112
    go_wp2
    have B1 := belowA (below_alloc1 (Below.refl w.heap.size w) (Nat.le_refl _) (.cells #[.slice A n c, .int .i64 T, .int .i64 f] 162)) (.cells #[.slice A n c, .int .i64 T, .int .i64 f] 162)
    exact bodyPost_ret (results_r1 rfl _ _ (w.heap.size + 1) _ _ _ rfl (Trio.fresh (w.alloc (.cells #[.slice A n c, .int .i64 T, .int .i64 f] 162)) (w.heap.size + 1) (asz _ _) _ _ _ _)) rfl ⟨by rw [HX.out], B1⟩
  · have hb : ((e : Int) == 0) = false := by rw [beq_eq_false_iff_ne]; omega
    have HX := Lib.hid (show (e : Int) = (failE e f : Nat) by unfold failE; rw [if_neg he])
    clear he
    go_enter Tryz.func112, Tryz.ntmps112
    go_wp2
    have B1 := belowA (below_alloc1 (Below.refl w.heap.size w) (Nat.le_refl _) (.cells #[.slice A n c, .int .i64 T, .int .i64 e] 162)) (.cells #[.slice A n c, .int .i64 T, .int .i64 e] 162)
    exact bodyPost_ret (results_r1 rfl _ _ (w.heap.size + 1) _ _ _ rfl (Trio.fresh (w.alloc (.cells #[.slice A n c, .int .i64 T, .int .i64 e] 162)) (w.heap.size + 1) (asz _ _) _ _ _ _)) rfl ⟨by rw [HX.out], B1⟩
theorem numS_le (P : List UInt8) (at_ e k : Nat) (h : at_ ≤ P.length) : (numS P at_ e k).2.1 ≤ P.length := by
  unfold WireMath.numS
  split
  · exact h
  · split
    · exact h
    · simp only; omega
theorem blobS_le (P : List UInt8) (at_ e : Nat) (m : Int) (h : at_ ≤ P.length) : (blobS P at_ e m).2.1 ≤ P.length := by
  have := grpLe P at_ h
  unfold WireMath.blobS
  split
  · exact h
  · split
    · exact h
    · split
      · exact h
      · split
        · exact h
        · split
          · exact h
          · simp only; omega
theorem tkWideN (A : Option Addr) (P : List UInt8) (c at_ e k : Nat) (T E N : Int) (hT : T = at_) (hE : E = e) (hN : N = k) (w : World) (hp : RB w A c P) (hl : P.length ≤ 9223372036854775807) (hat : at_ ≤ P.length) (hk : k ≤ 8) (v a2 e2 : Nat) (hr : numS P at_ e k = (v, a2, e2)) :
    Calls Tryz.prog 109 #[.agg #[.slice A P.length c, .int .i64 T, .int .i64 E], .int .i64 N] w fun e' w' => e' = .returned (.tuple #[.int .u64 v, .agg #[.slice A P.length c, .int .i64 a2, .int .i64 e2]]) ∧ Below w.heap.size w w' := by
  have := takeWide_calls A P c at_ e k N E T hN hE hT w hp hl hat hk
  rw [hr] at this
  exact this
theorem tkBlobN (A : Option Addr) (P : List UInt8) (c at_ e : Nat) (n : Int) (T E : Int) (hT : T = at_) (hE : E = e) (w : World) (hp : RB w A c P) (hl : P.length ≤ 140737488355328) (hat : at_ ≤ P.length) (hn : n ≤ 9223372036854775807) (q : List UInt8) (a2 e2 : Nat) (hr : blobS P at_ e n = (q, a2, e2)) :
    Calls Tryz.prog 147 #[.agg #[.slice A P.length c, .int .i64 T, .int .i64 E], .int .i64 n] w fun e' w' => ∃ A' c', e' = .returned (.tuple #[.slice A' q.length c', .agg #[.slice A P.length c, .int .i64 a2, .int .i64 e2]]) ∧ NewB w w' (.slice A' q.length c') q := by
  have := takeBlob_calls A P c at_ e n E T hE hT w hp hl hat hn
  rw [hr] at this
  exact this
theorem OB.low3 {w : World} {base e g : Nat} {v x y z : Value} {p : List UInt8} (h : OB w base e v p) (hg : g < base) : OB (((w.setCell ⟨g, 0, none⟩ x).setCell ⟨g, 1, none⟩ y).setCell ⟨g, 2, none⟩ z) base e v p := ((h.low hg).low hg).low hg
/-- what Take leaves -/
structure TkR where
  v : En
  at_ : Nat
  e : Nat
def takeR (P : List UInt8) (at_ e : Nat) : TkR :=
  if (numS P at_ e 1).1 = 1 then
    ⟨⟨1, (blobS P (numS P at_ e 1).2.1 (numS P at_ e 1).2.2 64).1, (blobS P (blobS P (numS P at_ e 1).2.1 (numS P at_ e 1).2.2 64).2.1 (blobS P (numS P at_ e 1).2.1 (numS P at_ e 1).2.2 64).2.2 256).1⟩,
      (blobS P (blobS P (numS P at_ e 1).2.1 (numS P at_ e 1).2.2 64).2.1 (blobS P (numS P at_ e 1).2.1 (numS P at_ e 1).2.2 64).2.2 256).2.1, (blobS P (blobS P (numS P at_ e 1).2.1 (numS P at_ e 1).2.2 64).2.1 (blobS P (numS P at_ e 1).2.1 (numS P at_ e 1).2.2 64).2.2 256).2.2⟩
  else if (numS P at_ e 1).1 = 2 then ⟨⟨2, (blobS P (numS P at_ e 1).2.1 (numS P at_ e 1).2.2 64).1, []⟩, (blobS P (numS P at_ e 1).2.1 (numS P at_ e 1).2.2 64).2.1, (blobS P (numS P at_ e 1).2.1 (numS P at_ e 1).2.2 64).2.2⟩
  else ⟨⟨(numS P at_ e 1).1, (blobS P (numS P at_ e 1).2.1 (failE (numS P at_ e 1).2.2 3) 64).1, []⟩, (blobS P (numS P at_ e 1).2.1 (failE (numS P at_ e 1).2.2 3) 64).2.1, (blobS P (numS P at_ e 1).2.1 (failE (numS P at_ e 1).2.2 3) 64).2.2⟩
/-- the four boxes of Take -/
structure DT (w0 w : World) (r0 r1 r2 v0 v1 v2 : Value) : Prop where
  rd : Trio w w0.heap.size r0 r1 r2
  en : Trio w (w0.heap.size + 1) (.int .u8 0) (.slice none 0 0) (.slice none 0 0)
  rr : Trio w (w0.heap.size + 1 + 1) (.slice none 0 0) (.int .i64 0) (.int .i64 0)
  ev : Trio w (w0.heap.size + 1 + 1 + 1) v0 v1 v2
  below : Below w0.heap.size w0 w
theorem Trio.other1 {w : World} {b g j : Nat} {x y z u : Value} (h : Trio w b x y z) (hne : b ≠ g) : Trio (w.setCell ⟨g, j, none⟩ u) b x y z := h.keepG (setCell_grown w g j u) hne
theorem Trio.other3 {w : World} {b g : Nat} {x y z u v t : Value} (h : Trio w b x y z) (hne : b ≠ g) : Trio (((w.setCell ⟨g, 0, none⟩ u).setCell ⟨g, 1, none⟩ v).setCell ⟨g, 2, none⟩ t) b x y z := ((h.other1 hne).other1 hne).other1 hne
theorem DT.new {w0 w w' : World} {r0 r1 r2 v0 v1 v2 : Value} (h : DT w0 w r0 r1 r2 v0 v1 v2) (hb : Below w.heap.size w w') : DT w0 w' r0 r1 r2 v0 v1 v2 :=
  ⟨h.rd.new hb, h.en.new hb, h.rr.new hb, h.ev.new hb, below_then h.below hb⟩
theorem DT.putR {w0 w : World} {r0 r1 r2 v0 v1 v2 : Value} (h : DT w0 w r0 r1 r2 v0 v1 v2) (x y z : Value) : DT w0 (((w.setCell ⟨w0.heap.size, 0, none⟩ x).setCell ⟨w0.heap.size, 1, none⟩ y).setCell ⟨w0.heap.size, 2, none⟩ z) x y z v0 v1 v2 :=
  ⟨h.rd.put x y z, h.en.other3 (by omega), h.rr.other3 (by omega), h.ev.other3 (by omega), h.below.trans (put3_below (Nat.le_refl _) x y z)⟩
theorem DT.set0 {w0 w : World} {r0 r1 r2 v0 v1 v2 : Value} (h : DT w0 w r0 r1 r2 v0 v1 v2) (u : Value) : DT w0 (w.setCell ⟨w0.heap.size + 1 + 1 + 1, 0, none⟩ u) r0 r1 r2 u v1 v2 :=
  ⟨h.rd.other1 (by omega), h.en.other1 (by omega), h.rr.other1 (by omega), h.ev.set0 u, h.below.setCell (by show _ ≤ w0.heap.size + 1 + 1 + 1; omega) _⟩
theorem DT.set1 {w0 w : World} {r0 r1 r2 v0 v1 v2 : Value} (h : DT w0 w r0 r1 r2 v0 v1 v2) (u : Value) : DT w0 (w.setCell ⟨w0.heap.size + 1 + 1 + 1, 1, none⟩ u) r0 r1 r2 v0 u v2 :=
  ⟨h.rd.other1 (by omega), h.en.other1 (by omega), h.rr.other1 (by omega), h.ev.set1 u, h.below.setCell (by show _ ≤ w0.heap.size + 1 + 1 + 1; omega) _⟩
theorem DT.set2 {w0 w : World} {r0 r1 r2 v0 v1 v2 : Value} (h : DT w0 w r0 r1 r2 v0 v1 v2) (u : Value) : DT w0 (w.setCell ⟨w0.heap.size + 1 + 1 + 1, 2, none⟩ u) r0 r1 r2 v0 v1 u :=
  ⟨h.rd.other1 (by omega), h.en.other1 (by omega), h.rr.other1 (by omega), h.ev.set2 u, h.below.setCell (by show _ ≤ w0.heap.size + 1 + 1 + 1; omega) _⟩
theorem DT.start (w : World) (r0 r1 r2 : Value) : DT w ((((w.alloc (.cells #[r0, r1, r2] 162)).alloc (.cells #[.int .u8 0, .slice none 0 0, .slice none 0 0] 72)).alloc (.cells #[.slice none 0 0, .int .i64 0, .int .i64 0] 162)).alloc (.cells #[.int .u8 0, .slice none 0 0, .slice none 0 0] 72)) r0 r1 r2 (.int .u8 0) (.slice none 0 0) (.slice none 0 0) := by
  have n : ∀ (w : World) (o : Obj), Below w.heap.size w (w.alloc o) := fun w o => below_alloc1 (Below.refl _ _) (Nat.le_refl _) o
  refine ⟨((((Trio.fresh w w.heap.size rfl r0 r1 r2 _).new (n _ _)).new (n _ _)).new (n _ _)), ((Trio.fresh _ (w.heap.size + 1) (asz _ _) _ _ _ _).new (n _ _)).new (n _ _), (Trio.fresh _ (w.heap.size + 1 + 1) (asz2 _ _ _) _ _ _ _).new (n _ _), Trio.fresh _ (w.heap.size + 1 + 1 + 1) (by rw [asz, asz2]) _ _ _ _, ?_⟩
  exact belowA (belowA (belowA (n _ _) _) _) _
theorem results_tk {fn : Func} {p q : Tmp} (h : fn.results = #[.cell p 72, .cell q 162]) (tmps : Array Value) (w : World) (b c : Nat) (x y z r s t : Value) (hp : tmps.getD p undef = .pointer (some ⟨b, 0, none⟩)) (hq : tmps.getD q undef = .pointer (some ⟨c, 0, none⟩)) (ht : Trio w b x y z) (hu : Trio w c r s t) :
    (results fn tmps).run Tryz.prog w = .ok (.tuple #[.agg #[x, y, z], .agg #[r, s, t]]) w := by
  have hp' : tmps[p]?.getD undef = .pointer (some ⟨b, 0, none⟩) := by simpa using hp
  have hq' : tmps[q]?.getD undef = .pointer (some ⟨c, 0, none⟩) := by simpa using hq
  have hl := run_loadVar_mid (P := Tryz.prog) w b 0 72 [x, y, z] _ (fun j v hj => by
    match j, hj with
    | 0, hj => simp at hj; subst hj; simpa using ht.c0
    | 1, hj => simp at hj; subst hj; simpa using ht.c1
    | 2, hj => simp at hj; subst hj; simpa using ht.c2
    | j + 3, hj => simp at hj) Tryz.underlying72 rfl (by kernel_rfl)
  have hl2 := run_loadVar_mid (P := Tryz.prog) w c 0 162 [r, s, t] _ (fun j v hj => by
    match j, hj with
    | 0, hj => simp at hj; subst hj; simpa using hu.c0
    | 1, hj => simp at hj; subst hj; simpa using hu.c1
    | 2, hj => simp at hj; subst hj; simpa using hu.c2
    | j + 3, hj => simp at hj) Tryz.underlying162 rfl (by kernel_rfl)
  simp [results, h, hp', hq', asAddr, hl, hl2]
set_option maxHeartbeats 400000 in
set_option maxRecDepth 100000 in
theorem dtake_put (A : Option Addr) (P : List UInt8) (c at_ e : Nat) (T E : Int) (hT : T = at_) (hE : E = e) (w : World) (hp : RB w A c P) (hl : P.length ≤ 140737488355328) (hat : at_ ≤ P.length) (a1 e1 a2 e2 a3 e3 : Nat) (K V : List UInt8) (h1 : numS P at_ e 1 = (1, a1, e1)) (h2 : blobS P a1 e1 64 = (K, a2, e2)) (h3 : blobS P a2 e2 256 = (V, a3, e3)) :
    Calls Tryz.prog 114 #[.agg #[.slice A P.length c, .int .i64 T, .int .i64 E]] w fun r w' => ∃ a : EnA, r = .returned (.tuple #[.agg #[.int .u8 1, .slice a.KA K.length a.kc, .slice a.VA V.length a.vc], .agg #[.slice A P.length c, .int .i64 a3, .int .i64 e3]]) ∧ NewE w w' ⟨1, K, V⟩ a := by
  subst hT; subst hE
  have D0 := Lib.hid (DT.start w (.slice A P.length c) (.int .i64 at_) (.int .i64 e))
  have hla1 : a1 ≤ P.length := by have := numS_le P at_ e 1 hat; rw [h1] at this; exact this
  have hla2 : a2 ≤ P.length := by have := blobS_le P a1 e1 64 hla1; rw [h2] at this; exact this
  have hl2 : P.length ≤ 9223372036854775807 := by omega
  have H1 := Lib.hid h1
  have H2 := Lib.hid h2
  have H3 := Lib.hid h3
  have c1 := Lib.hid (show (1 : Int) = ((1 : Nat) : Int) from rfl)
  have x0 := D0.out.rd.c0
  have x1 := D0.out.rd.c1
  have x2 := D0.out.rd.c2
  clear h1 h2 h3
  go_enter Tryz.func114, Tryz.ntmps114
  go_wp2_with (first
    | (go_at_call 109; go_loud (with_reducible refine (tkWideN A P c at_ e 1 at_ e 1 rfl rfl c1.out _ (hp.new D0.out.below) hl2 hat (by decide) 1 a1 e1 H1.out).mono ?_); rintro r1 w1 ⟨rfl, hb1⟩; have D1 := ((D0.out.new hb1).putR (.slice A P.length c) (.int .i64 a1) (.int .i64 e1)).set0 (.int .u8 1); have g0 := (D0.out.new hb1).rd.c0; have g1 := (D0.out.new hb1).rd.c1; have g2 := (D0.out.new hb1).rd.c2; have f0 := (D0.out.new hb1).rd.fz 0; have f1 := (D0.out.new hb1).rd.fz 1; have f2 := (D0.out.new hb1).rd.fz 2; have v0 := ((D0.out.new hb1).putR (.slice A P.length c) (.int .i64 a1) (.int .i64 e1)).ev.c0; have q0 := ((D0.out.new hb1).putR (.slice A P.length c) (.int .i64 a1) (.int .i64 e1)).ev.fz 0; have r0 := D1.rd.c0; have r1 := D1.rd.c1; have r2 := D1.rd.c2; have hz1 := D1.ev.lt)
    | (go_at_call 147; (with_reducible refine (tkBlobN A P c a1 e1 64 a1 e1 rfl rfl _ (hp.new D1.below) hl hla1 (by decide) K a2 e2 H2.out).mono ?_); rintro s2 w2 ⟨A2, c2, rfl, hn2⟩; have DB2 := D1.new hn2.below; have DC2 := DB2.set1 (.slice A2 K.length c2); have D2 := DC2.putR (.slice A P.length c) (.int .i64 a2) (.int .i64 e2); have v1 := DB2.ev.c1; have q1 := DB2.ev.fz 1; have g0 := DC2.rd.c0; have g1 := DC2.rd.c1; have g2 := DC2.rd.c2; have f0 := DC2.rd.fz 0; have f1 := DC2.rd.fz 1; have f2 := DC2.rd.fz 2; have r0 := D2.rd.c0; have r1 := D2.rd.c1; have r2 := D2.rd.c2; have hz2 := D2.ev.lt; have K2 := Lib.hid ((hn2.own.low (g := w.heap.size + 1 + 1 + 1) (j := 1) (u := .slice A2 K.length c2) (by omega)).low3 (g := w.heap.size) (x := .slice A P.length c) (y := .int .i64 a2) (z := .int .i64 e2) (by omega)))
    | (go_at_call 147; go_loud (with_reducible refine (tkBlobN A P c a2 e2 256 a2 e2 rfl rfl _ (hp.new D2.below) hl hla2 (by decide) V a3 e3 H3.out).mono ?_); rintro s3 w3 ⟨A3, c3, rfl, hn3⟩; have DB3 := D2.new hn3.below; have DC3 := DB3.set2 (.slice A3 V.length c3); have D3 := DC3.putR (.slice A P.length c) (.int .i64 a3) (.int .i64 e3); have v2 := DB3.ev.c2; have q2 := DB3.ev.fz 2; have g0 := DC3.rd.c0; have g1 := DC3.rd.c1; have g2 := DC3.rd.c2; have f0 := DC3.rd.fz 0; have f1 := DC3.rd.fz 1; have f2 := DC3.rd.fz 2; have r0 := D3.rd.c0; have r1 := D3.rd.c1; have r2 := D3.rd.c2; have u0 := D3.ev.c0; have u1 := D3.ev.c1; have u2 := D3.ev.c2; have hz3 := D3.ev.lt; have K3 := Lib.hid (((K2.out.new hn3.below).low (g := w.heap.size + 1 + 1 + 1) (j := 2) (u := .slice A3 V.length c3) (by omega)).low3 (g := w.heap.size) (x := .slice A P.length c) (y := .int .i64 a3) (z := .int .i64 e3) (by omega)); have V3 := Lib.hid ((hn3.own.low (g := w.heap.size + 1 + 1 + 1) (j := 2) (u := .slice A3 V.length c3) (by omega)).low3 (g := w.heap.size) (x := .slice A P.length c) (y := .int .i64 a3) (z := .int .i64 e3) (by omega)); have n0 := D3.en.c0; have n1 := D3.en.c1; have n2 := D3.en.c2; have p0 := D3.en.fz 0; have p1 := D3.en.fz 1; have p2 := D3.en.fz 2; have t0 := D3.rr.c0; have t1 := D3.rr.c1; have t2 := D3.rr.c2; have l0 := D3.rr.fz 0; have l1 := D3.rr.fz 1; have l2 := D3.rr.fz 2))
  go_region
  all_goals
    go_wp2
    have E4 := (D3.en.put (.int .u8 1) (.slice A2 K.length c2) (.slice A3 V.length c3)).other3 (g := w.heap.size + 1 + 1) (u := .slice A P.length c) (v := .int .i64 a3) (t := .int .i64 e3) (by omega)
    have R4 := (D3.rr.other3 (g := w.heap.size + 1) (u := .int .u8 1) (v := .slice A2 K.length c2) (t := .slice A3 V.length c3) (by omega)).put (.slice A P.length c) (.int .i64 a3) (.int .i64 e3)
    have hs2 := hn2.below.size
    have K4 := ((K3.out.low3 (g := w.heap.size + 1) (x := .int .u8 1) (y := .slice A2 K.length c2) (z := .slice A3 V.length c3) (by omega)).low3 (g := w.heap.size + 1 + 1) (x := .slice A P.length c) (y := .int .i64 a3) (z := .int .i64 e3) (by omega)).mono D1.below.size
    have V4 := ((V3.out.low3 (g := w.heap.size + 1) (x := .int .u8 1) (y := .slice A2 K.length c2) (z := .slice A3 V.length c3) (by omega)).low3 (g := w.heap.size + 1 + 1) (x := .slice A P.length c) (y := .int .i64 a3) (z := .int .i64 e3) (by omega)).mono D2.below.size
    have B4 := (D3.below.trans (put3_below (g := w.heap.size + 1) (by omega) (.int .u8 1) (.slice A2 K.length c2) (.slice A3 V.length c3))).trans (put3_below (g := w.heap.size + 1 + 1) (by omega) (.slice A P.length c) (.int .i64 a3) (.int .i64 e3))
    exact bodyPost_ret (results_tk rfl _ _ (w.heap.size + 1) (w.heap.size + 1 + 1) _ _ _ _ _ _ rfl rfl E4.drew R4.drew) rfl ⟨⟨A2, c2, A3, c3⟩, rfl, K4.new (below_drew _ _), V4.new (below_drew _ _), B4.drew⟩
set_option maxHeartbeats 400000 in
set_option maxRecDepth 100000 in
theorem dtake_del (A : Option Addr) (P : List UInt8) (c at_ e : Nat) (T E : Int) (hT : T = at_) (hE : E = e) (w : World) (hp : RB w A c P) (hl : P.length ≤ 140737488355328) (hat : at_ ≤ P.length) (a1 e1 a2 e2 : Nat) (K : List UInt8) (h1 : numS P at_ e 1 = (2, a1, e1)) (h2 : blobS P a1 e1 64 = (K, a2, e2)) :
    Calls Tryz.prog 114 #[.agg #[.slice A P.length c, .int .i64 T, .int .i64 E]] w fun r w' => ∃ a : EnA, r = .returned (.tuple #[.agg #[.int .u8 2, .slice a.KA K.length a.kc, .slice a.VA 0 a.vc], .agg #[.slice A P.length c, .int .i64 a2, .int .i64 e2]]) ∧ NewE w w' ⟨2, K, []⟩ a := by
  subst hT; subst hE
  have D0 := Lib.hid (DT.start w (.slice A P.length c) (.int .i64 at_) (.int .i64 e))
  have hla1 : a1 ≤ P.length := by have := numS_le P at_ e 1 hat; rw [h1] at this; exact this
  have hla2 : a2 ≤ P.length := by have := blobS_le P a1 e1 64 hla1; rw [h2] at this; exact this
  have hl2 : P.length ≤ 9223372036854775807 := by omega
  have H1 := Lib.hid h1
  have H2 := Lib.hid h2
  have c1 := Lib.hid (show (1 : Int) = ((1 : Nat) : Int) from rfl)
  have x0 := D0.out.rd.c0
  have x1 := D0.out.rd.c1
  have x2 := D0.out.rd.c2
  clear h1 h2
  go_enter Tryz.func114, Tryz.ntmps114
  go_wp2_with (first
    | (go_at_call 109; go_loud (with_reducible refine (tkWideN A P c at_ e 1 at_ e 1 rfl rfl c1.out _ (hp.new D0.out.below) hl2 hat (by decide) 2 a1 e1 H1.out).mono ?_); rintro r1 w1 ⟨rfl, hb1⟩; have D1 := ((D0.out.new hb1).putR (.slice A P.length c) (.int .i64 a1) (.int .i64 e1)).set0 (.int .u8 2); have g0 := (D0.out.new hb1).rd.c0; have g1 := (D0.out.new hb1).rd.c1; have g2 := (D0.out.new hb1).rd.c2; have f0 := (D0.out.new hb1).rd.fz 0; have f1 := (D0.out.new hb1).rd.fz 1; have f2 := (D0.out.new hb1).rd.fz 2; have v0 := ((D0.out.new hb1).putR (.slice A P.length c) (.int .i64 a1) (.int .i64 e1)).ev.c0; have q0 := ((D0.out.new hb1).putR (.slice A P.length c) (.int .i64 a1) (.int .i64 e1)).ev.fz 0; have r0 := D1.rd.c0; have r1 := D1.rd.c1; have r2 := D1.rd.c2; have hz1 := D1.ev.lt)
    | (go_at_call 147; (with_reducible refine (tkBlobN A P c a1 e1 64 a1 e1 rfl rfl _ (hp.new D1.below) hl hla1 (by decide) K a2 e2 H2.out).mono ?_); rintro s2 w2 ⟨A2, c2, rfl, hn2⟩; have DB2 := D1.new hn2.below; have DC2 := DB2.set1 (.slice A2 K.length c2); have D2 := DC2.putR (.slice A P.length c) (.int .i64 a2) (.int .i64 e2); have v1 := DB2.ev.c1; have q1 := DB2.ev.fz 1; have g0 := DC2.rd.c0; have g1 := DC2.rd.c1; have g2 := DC2.rd.c2; have f0 := DC2.rd.fz 0; have f1 := DC2.rd.fz 1; have f2 := DC2.rd.fz 2; have r0 := D2.rd.c0; have r1 := D2.rd.c1; have r2 := D2.rd.c2; have hz2 := D2.ev.lt; have K2 := Lib.hid ((hn2.own.low (g := w.heap.size + 1 + 1 + 1) (j := 1) (u := .slice A2 K.length c2) (by omega)).low3 (g := w.heap.size) (x := .slice A P.length c) (y := .int .i64 a2) (z := .int .i64 e2) (by omega)); have u0 := D2.ev.c0; have u1 := D2.ev.c1; have u2 := D2.ev.c2; have n0 := D2.en.c0; have n1 := D2.en.c1; have n2 := D2.en.c2; have p0 := D2.en.fz 0; have p1 := D2.en.fz 1; have p2 := D2.en.fz 2; have t0 := D2.rr.c0; have t1 := D2.rr.c1; have t2 := D2.rr.c2; have l0 := D2.rr.fz 0; have l1 := D2.rr.fz 1; have l2 := D2.rr.fz 2))
  go_region
  all_goals
    go_wp2
    have E4 := (D2.en.put (.int .u8 2) (.slice A2 K.length c2) (.slice none 0 0)).other3 (g := w.heap.size + 1 + 1) (u := .slice A P.length c) (v := .int .i64 a2) (t := .int .i64 e2) (by omega)
    have R4 := (D2.rr.other3 (g := w.heap.size + 1) (u := .int .u8 2) (v := .slice A2 K.length c2) (t := .slice none 0 0) (by omega)).put (.slice A P.length c) (.int .i64 a2) (.int .i64 e2)
    have K4 := ((K2.out.low3 (g := w.heap.size + 1) (x := .int .u8 2) (y := .slice A2 K.length c2) (z := .slice none 0 0) (by omega)).low3 (g := w.heap.size + 1 + 1) (x := .slice A P.length c) (y := .int .i64 a2) (z := .int .i64 e2) (by omega)).mono D1.below.size
    have B4 := (D2.below.trans (put3_below (g := w.heap.size + 1) (by omega) (.int .u8 2) (.slice A2 K.length c2) (.slice none 0 0))).trans (put3_below (g := w.heap.size + 1 + 1) (by omega) (.slice A P.length c) (.int .i64 a2) (.int .i64 e2))
    exact bodyPost_ret (results_tk rfl _ _ (w.heap.size + 1) (w.heap.size + 1 + 1) _ _ _ _ _ _ rfl rfl E4.drew R4.drew) rfl ⟨⟨A2, c2, none, 0⟩, rfl, K4.new (below_drew _ _), OB.nil _ _ _, B4.drew⟩
set_option maxHeartbeats 400000 in
set_option maxRecDepth 100000 in
theorem dtake_odd (A : Option Addr) (P : List UInt8) (c at_ e : Nat) (T E : Int) (hT : T = at_) (hE : E = e) (w : World) (hp : RB w A c P) (hl : P.length ≤ 140737488355328) (hat : at_ ≤ P.length) (kv a1 e1 a2 e2 : Nat) (k1 : kv ≠ 1) (k2 : kv ≠ 2) (K : List UInt8) (h1 : numS P at_ e 1 = (kv, a1, e1)) (h2 : blobS P a1 (failE e1 3) 64 = (K, a2, e2)) :
    Calls Tryz.prog 114 #[.agg #[.slice A P.length c, .int .i64 T, .int .i64 E]] w fun r w' => ∃ a : EnA, r = .returned (.tuple #[.agg #[.int .u8 kv, .slice a.KA K.length a.kc, .slice a.VA 0 a.vc], .agg #[.slice A P.length c, .int .i64 a2, .int .i64 e2]]) ∧ NewE w w' ⟨kv, K, []⟩ a := by
  subst hT; subst hE
  have D0 := Lib.hid (DT.start w (.slice A P.length c) (.int .i64 at_) (.int .i64 e))
  have hla1 : a1 ≤ P.length := by have := numS_le P at_ e 1 hat; rw [h1] at this; exact this
  have hla2 : a2 ≤ P.length := by have := blobS_le P a1 (failE e1 3) 64 hla1; rw [h2] at this; exact this
  have hl2 : P.length ≤ 9223372036854775807 := by omega
  have H1 := Lib.hid h1
  have H2 := Lib.hid h2
  have hkv : kv ≤ 255 := by have := numS_lt P at_ e 1; rw [h1] at this; simp at this; omega
  have b1 : ((kv : Int) != 1) = true := by rw [bne_iff_ne]; omega
  have b2 : ((kv : Int) != 2) = true := by rw [bne_iff_ne]; omega
  have b3 : ((kv : Int) == 1) = false := by rw [beq_eq_false_iff_ne]; omega
  have c3 := Lib.hid (show (3 : Int) = ((3 : Nat) : Int) from rfl)
  have c1 := Lib.hid (show (1 : Int) = ((1 : Nat) : Int) from rfl)
  have x0 := D0.out.rd.c0
  have x1 := D0.out.rd.c1
  have x2 := D0.out.rd.c2
  clear h1 h2 k1 k2
  go_enter Tryz.func114, Tryz.ntmps114
  go_wp2_with (first
    | (go_at_call 109; go_loud (with_reducible refine (tkWideN A P c at_ e 1 at_ e 1 rfl rfl c1.out _ (hp.new D0.out.below) hl2 hat (by decide) kv a1 e1 H1.out).mono ?_); rintro r1 w1 ⟨rfl, hb1⟩; have D1 := ((D0.out.new hb1).putR (.slice A P.length c) (.int .i64 a1) (.int .i64 e1)); have g0 := (D0.out.new hb1).rd.c0; have g1 := (D0.out.new hb1).rd.c1; have g2 := (D0.out.new hb1).rd.c2; have f0 := (D0.out.new hb1).rd.fz 0; have f1 := (D0.out.new hb1).rd.fz 1; have f2 := (D0.out.new hb1).rd.fz 2; have r0 := D1.rd.c0; have r1 := D1.rd.c1; have r2 := D1.rd.c2; have hz1 := D1.ev.lt)
    | (go_at_call 112; go_loud (with_reducible refine (failed_calls A P.length c a1 3 e1 3 c3.out e1 rfl _).mono ?_); rintro s9 w9 ⟨rfl, hb9⟩; have DA9 := D1.new hb9; have DB9 := DA9.putR (.slice A P.length c) (.int .i64 a1) (.int .i64 (failE e1 3)); have D9 := DB9.set0 (.int .u8 kv); have g0 := DA9.rd.c0; have g1 := DA9.rd.c1; have g2 := DA9.rd.c2; have f0 := DA9.rd.fz 0; have f1 := DA9.rd.fz 1; have f2 := DA9.rd.fz 2; have v0 := DB9.ev.c0; have q0 := DB9.ev.fz 0; have r0 := D9.rd.c0; have r1 := D9.rd.c1; have r2 := D9.rd.c2; have hz9 := D9.ev.lt)
    | (go_at_call 147; (with_reducible refine (tkBlobN A P c a1 (failE e1 3) 64 a1 (failE e1 3) rfl rfl _ (hp.new D9.below) hl hla1 (by decide) K a2 e2 H2.out).mono ?_); rintro s2 w2 ⟨A2, c2, rfl, hn2⟩; have DB2 := D9.new hn2.below; have DC2 := DB2.set1 (.slice A2 K.length c2); have D2 := DC2.putR (.slice A P.length c) (.int .i64 a2) (.int .i64 e2); have v1 := DB2.ev.c1; have q1 := DB2.ev.fz 1; have g0 := DC2.rd.c0; have g1 := DC2.rd.c1; have g2 := DC2.rd.c2; have f0 := DC2.rd.fz 0; have f1 := DC2.rd.fz 1; have f2 := DC2.rd.fz 2; have r0 := D2.rd.c0; have r1 := D2.rd.c1; have r2 := D2.rd.c2; have hz2 := D2.ev.lt; have K2 := Lib.hid ((hn2.own.low (g := w.heap.size + 1 + 1 + 1) (j := 1) (u := .slice A2 K.length c2) (by omega)).low3 (g := w.heap.size) (x := .slice A P.length c) (y := .int .i64 a2) (z := .int .i64 e2) (by omega)); have u0 := D2.ev.c0; have u1 := D2.ev.c1; have u2 := D2.ev.c2; have n0 := D2.en.c0; have n1 := D2.en.c1; have n2 := D2.en.c2; have p0 := D2.en.fz 0; have p1 := D2.en.fz 1; have p2 := D2.en.fz 2; have t0 := D2.rr.c0; have t1 := D2.rr.c1; have t2 := D2.rr.c2; have l0 := D2.rr.fz 0; have l1 := D2.rr.fz 1; have l2 := D2.rr.fz 2))
  go_region
  all_goals
    go_wp2
    have E4 := (D2.en.put (.int .u8 kv) (.slice A2 K.length c2) (.slice none 0 0)).other3 (g := w.heap.size + 1 + 1) (u := .slice A P.length c) (v := .int .i64 a2) (t := .int .i64 e2) (by omega)
    have R4 := (D2.rr.other3 (g := w.heap.size + 1) (u := .int .u8 kv) (v := .slice A2 K.length c2) (t := .slice none 0 0) (by omega)).put (.slice A P.length c) (.int .i64 a2) (.int .i64 e2)
    have K4 := ((K2.out.low3 (g := w.heap.size + 1) (x := .int .u8 kv) (y := .slice A2 K.length c2) (z := .slice none 0 0) (by omega)).low3 (g := w.heap.size + 1 + 1) (x := .slice A P.length c) (y := .int .i64 a2) (z := .int .i64 e2) (by omega)).mono D9.below.size
    have B4 := (D2.below.trans (put3_below (g := w.heap.size + 1) (by omega) (.int .u8 kv) (.slice A2 K.length c2) (.slice none 0 0))).trans (put3_below (g := w.heap.size + 1 + 1) (by omega) (.slice A P.length c) (.int .i64 a2) (.int .i64 e2))
    exact bodyPost_ret (results_tk rfl _ _ (w.heap.size + 1) (w.heap.size + 1 + 1) _ _ _ _ _ _ rfl rfl E4.drew R4.drew) rfl ⟨⟨A2, c2, none, 0⟩, rfl, K4.new (below_drew _ _), OB.nil _ _ _, B4.drew⟩
theorem dtake_calls (A : Option Addr) (P : List UInt8) (n c at_ e : Nat) (T E : Int) (hT : T = at_) (hE : E = e) (w : World) (hp : RB w A c P) (hn : n = P.length) (hl : P.length ≤ 140737488355328) (hat : at_ ≤ P.length) (t : TkR) (ht : takeR P at_ e = t) :
    Calls Tryz.prog 114 #[.agg #[.slice A n c, .int .i64 T, .int .i64 E]] w fun r w' => ∃ a : EnA, r = .returned (.tuple #[.agg #[.int .u8 t.v.k, .slice a.KA t.v.K.length a.kc, .slice a.VA t.v.V.length a.vc], .agg #[.slice A n c, .int .i64 t.at_, .int .i64 t.e]]) ∧ NewE w w' t.v a := by
  subst hn; subst ht
  unfold takeR
  obtain ⟨kv, a1, e1, h1⟩ : ∃ kv a1 e1, numS P at_ e 1 = (kv, a1, e1) := ⟨_, _, _, rfl⟩
  rw [h1]
  simp only
  by_cases k1 : kv = 1
  · subst k1
    rw [if_pos rfl]
    exact dtake_put A P c at_ e T E hT hE w hp hl hat a1 e1 _ _ _ _ _ _ h1 rfl rfl
  · rw [if_neg k1]
    by_cases k2 : kv = 2
    · subst k2
      rw [if_pos rfl]
      exact dtake_del A P c at_ e T E hT hE w hp hl hat a1 e1 _ _ _ h1 rfl
    · rw [if_neg k2]
      exact dtake_odd A P c at_ e T E hT hE w hp hl hat kv a1 e1 _ _ k1 k2 _ h1 rfl
theorem takeR_le (P : List UInt8) (at_ e : Nat) (h : at_ ≤ P.length) : (takeR P at_ e).at_ ≤ P.length := by
  have h1 := numS_le P at_ e 1 h
  unfold takeR
  split
  · exact blobS_le _ _ _ _ (blobS_le _ _ _ _ h1)
  · split
    · exact blobS_le _ _ _ _ h1
    · exact blobS_le _ _ _ _ h1
theorem blobS_bad (P : List UInt8) (at_ e : Nat) (m : Int) (h : e ≠ 0) : blobS P at_ e m = ([], at_, e) := by
  unfold WireMath.blobS; rw [if_pos h]
theorem numS_bad (P : List UInt8) (at_ e : Nat) (h : (numS P at_ e 1).2.2 ≠ 0) : (numS P at_ e 1).1 = 0 := by
  unfold WireMath.numS at h ⊢
  split
  · rfl
  · split
    · rfl
    · rename_i h1 h2; rw [if_neg h1, if_neg h2] at h; exact absurd rfl h
/-- both say the same of an entry -/
theorem takeR_entS (P : List UInt8) (at_ : Nat) : (takeR P at_ 0).e = (entS P at_).e ∧ ((entS P at_).e = 0 → (takeR P at_ 0).v = (entS P at_).v ∧ (takeR P at_ 0).at_ = (entS P at_).at_) := by
  unfold takeR entS
  by_cases h : (numS P at_ 0 1).2.2 ≠ 0
  · have h0 := numS_bad P at_ 0 h
    rw [if_pos h, if_neg (by omega), if_neg (by omega)]
    have hf : failE (numS P at_ 0 1).2.2 3 = (numS P at_ 0 1).2.2 := by unfold failE; rw [if_neg h]
    rw [hf, blobS_bad _ _ _ _ h]
    exact ⟨rfl, fun h9 => absurd h9 h⟩
  · rw [if_neg h]
    have h' : (numS P at_ 0 1).2.2 = 0 := by omega
    rw [h']
    by_cases k1 : (numS P at_ 0 1).1 = 1
    · rw [if_pos k1, if_neg (by omega)]
      by_cases hb : (blobS P (numS P at_ 0 1).2.1 0 64).2.2 ≠ 0
      · rw [if_pos hb, blobS_bad _ _ _ _ hb]
        exact ⟨rfl, fun h9 => absurd h9 hb⟩
      · rw [if_neg hb, if_pos k1]
        have hb' : (blobS P (numS P at_ 0 1).2.1 0 64).2.2 = 0 := by omega
        rw [hb']
        by_cases hv : (blobS P (blobS P (numS P at_ 0 1).2.1 0 64).2.1 0 256).2.2 ≠ 0
        · rw [if_pos hv]
          exact ⟨rfl, fun h9 => absurd h9 hv⟩
        · rw [if_neg hv]
          have hv' : (blobS P (blobS P (numS P at_ 0 1).2.1 0 64).2.1 0 256).2.2 = 0 := by omega
          exact ⟨hv', fun _ => ⟨rfl, rfl⟩⟩
    · rw [if_neg k1]
      by_cases k2 : (numS P at_ 0 1).1 = 2
      · rw [if_pos k2, if_neg (by omega)]
        by_cases hb : (blobS P (numS P at_ 0 1).2.1 0 64).2.2 ≠ 0
        · rw [if_pos hb]
          exact ⟨rfl, fun h9 => absurd h9 hb⟩
        · rw [if_neg hb, if_neg k1]
          have hb' : (blobS P (numS P at_ 0 1).2.1 0 64).2.2 = 0 := by omega
          exact ⟨hb', fun _ => ⟨rfl, rfl⟩⟩
      · rw [if_neg k2, if_pos ⟨k1, k2⟩]
        have hf : failE 0 3 = 3 := rfl
        rw [hf, blobS_bad _ _ _ _ (by decide)]
        exact ⟨rfl, fun h9 => absurd h9 (by decide)⟩
end Go.Proofs.YtpmnnnbkbcpgjaaGreatDoor

/- The walk of notaryref05.DocDecode. -/
namespace Go.Proofs.YtpmnnnbkbcpgjaaGreatDoor
open Go.RowKit
open WireMath (numS beN rawS blobS uvarS grpL uvarL wideL)

theorem decF_take (P : List UInt8) : decF P = if doneE P (takeR P 0 0).at_ (takeR P 0 0).e ≠ 0 then (doneE P (takeR P 0 0).at_ (takeR P 0 0).e, ⟨0, [], []⟩) else (0, (takeR P 0 0).v) := by
  obtain ⟨h1, h2⟩ := takeR_entS P 0
  unfold decF
  by_cases h : (entS P 0).e ≠ 0
  · rw [if_pos h]
    have : doneE P (takeR P 0 0).at_ (takeR P 0 0).e = (entS P 0).e := by unfold doneE; rw [if_pos (.inl (by omega)), h1]
    rw [this, if_pos h]
  · have h' : (entS P 0).e = 0 := by omega
    obtain ⟨h3, h4⟩ := h2 h'
    rw [if_neg h, h1, h', h3, h4]
theorem results_dd {fn : Func} {p q : Tmp} (h : fn.results = #[.cell p 72, .tmp q]) (tmps : Array Value) (w : World) (b : Nat) (x y z : Value) (hp : tmps.getD p undef = .pointer (some ⟨b, 0, none⟩)) (ht : Trio w b x y z) :
    (results fn tmps).run Tryz.prog w = .ok (.tuple #[.agg #[x, y, z], tmps.getD q undef]) w := by
  have hp' : tmps[p]?.getD undef = .pointer (some ⟨b, 0, none⟩) := by simpa using hp
  have hl := run_loadVar_mid (P := Tryz.prog) w b 0 72 [x, y, z] _ (fun j v hj => by
    match j, hj with
    | 0, hj => simp at hj; subst hj; simpa using ht.c0
    | 1, hj => simp at hj; subst hj; simpa using ht.c1
    | 2, hj => simp at hj; subst hj; simpa using ht.c2
    | j + 3, hj => simp at hj) Tryz.underlying72 rfl (by kernel_rfl)
  simp [results, h, hp', asAddr, hl]
theorem rdoneN (A : Option Addr) (P : List UInt8) (n c at_ e : Nat) (w : World) (hn : n = P.length) (hat : at_ ≤ P.length) (f : Nat) (hf : doneE P at_ e = f) :
    Calls Tryz.prog 115 #[.agg #[.slice A n c, .int .i64 at_, .int .i64 e]] w fun e' w' => e' = .returned (.int .i64 f) ∧ Below w.heap.size w w' := by
  subst hf; exact refdone_calls A P n c at_ e e at_ rfl rfl w hn hat
end Go.Proofs.YtpmnnnbkbcpgjaaGreatDoor

/- The walk of notaryref05.DocDecodeBatch. -/
namespace Go.Proofs.YtpmnnnbkbcpgjaaGreatDoor
open Go.RowKit
open WireMath (numS beN rawS blobS uvarS grpL uvarL wideL)

/-- the three boxes of DocDecodeBatch -/
structure DS (w0 w : World) (g0 g1 r0 r1 r2 : Value) : Prop where
  res : Duo w w0.heap.size (.int .u64 0) (.slice none 0 0)
  bat : Duo w (w0.heap.size + 1) g0 g1
  rd : Trio w (w0.heap.size + 1 + 1) r0 r1 r2
  below : Below w0.heap.size w0 w
theorem Duo.other3 {w : World} {b g : Nat} {x y u v t : Value} (h : Duo w b x y) (hne : b ≠ g) : Duo (((w.setCell ⟨g, 0, none⟩ u).setCell ⟨g, 1, none⟩ v).setCell ⟨g, 2, none⟩ t) b x y := ((h.other hne).other hne).other hne
theorem DS.new {w0 w w' : World} {g0 g1 r0 r1 r2 : Value} (h : DS w0 w g0 g1 r0 r1 r2) (hb : Below w.heap.size w w') : DS w0 w' g0 g1 r0 r1 r2 := ⟨h.res.new hb, h.bat.new hb, h.rd.new hb, below_then h.below hb⟩
theorem DS.putR {w0 w : World} {g0 g1 r0 r1 r2 : Value} (h : DS w0 w g0 g1 r0 r1 r2) (x y z : Value) : DS w0 (((w.setCell ⟨w0.heap.size + 1 + 1, 0, none⟩ x).setCell ⟨w0.heap.size + 1 + 1, 1, none⟩ y).setCell ⟨w0.heap.size + 1 + 1, 2, none⟩ z) g0 g1 x y z :=
  ⟨h.res.other3 (by omega), h.bat.other3 (by omega), h.rd.put x y z, h.below.trans (put3_below (by omega) x y z)⟩
theorem DS.set0 {w0 w : World} {g0 g1 r0 r1 r2 : Value} (h : DS w0 w g0 g1 r0 r1 r2) (u : Value) : DS w0 (w.setCell ⟨w0.heap.size + 1, 0, none⟩ u) u g1 r0 r1 r2 :=
  ⟨h.res.other (by omega), h.bat.set0 u, h.rd.other1 (by omega), h.below.setCell (by show _ ≤ w0.heap.size + 1; omega) _⟩
theorem DS.set1 {w0 w : World} {g0 g1 r0 r1 r2 : Value} (h : DS w0 w g0 g1 r0 r1 r2) (u : Value) : DS w0 (w.setCell ⟨w0.heap.size + 1, 1, none⟩ u) g0 u r0 r1 r2 :=
  ⟨h.res.other (by omega), h.bat.set1 u, h.rd.other1 (by omega), h.below.setCell (by show _ ≤ w0.heap.size + 1; omega) _⟩
theorem DS.far3 {w0 w : World} {g0 g1 r0 r1 r2 x y z : Value} {g : Nat} (h : DS w0 w g0 g1 r0 r1 r2) (hg : w0.heap.size + 1 + 1 < g) : DS w0 (((w.setCell ⟨g, 0, none⟩ x).setCell ⟨g, 1, none⟩ y).setCell ⟨g, 2, none⟩ z) g0 g1 r0 r1 r2 :=
  ⟨h.res.other3 (by omega), h.bat.other3 (by omega), h.rd.other3 (by omega), h.below.trans (put3_below (by omega) x y z)⟩
theorem DS.grown {w0 w w' : World} {g0 g1 r0 r1 r2 : Value} {row : Option Nat} (h : DS w0 w g0 g1 r0 r1 r2) (hg : w.grownBy w' row) (hr : ∀ k, row = some k → w0.heap.size + 1 + 1 < k) : DS w0 w' g0 g1 r0 r1 r2 :=
  ⟨h.res.keep (hg.block _ h.res.lt (fun e => by have := hr _ e.symm; omega)), h.bat.keep (hg.block _ h.bat.lt (fun e => by have := hr _ e.symm; omega)), h.rd.keep (hg.block _ h.rd.lt (fun e => by have := hr _ e.symm; omega)), h.below.grown hg h.below.size (fun k e => by have := hr k e; omega)⟩
theorem DS.start (w : World) (r0 r1 r2 : Value) : DS w (((w.alloc (.cells #[.int .u64 0, .slice none 0 0] 35)).alloc (.cells #[.int .u64 0, .slice none 0 0] 35)).alloc (.cells #[r0, r1, r2] 162)) (.int .u64 0) (.slice none 0 0) r0 r1 r2 := by
  have n : ∀ (w : World) (o : Obj), Below w.heap.size w (w.alloc o) := fun w o => below_alloc1 (Below.refl _ _) (Nat.le_refl _) o
  exact ⟨((Duo.fresh w w.heap.size rfl _ _ _).new (n _ _)).new (n _ _), (Duo.fresh _ (w.heap.size + 1) (asz _ _) _ _ _).new (n _ _), Trio.fresh _ (w.heap.size + 1 + 1) (asz2 _ _ _) _ _ _ _, belowA (belowA (n _ _) _) _⟩
theorem results_ddb {fn : Func} {p q : Tmp} (h : fn.results = #[.cell p 35, .tmp q]) (tmps : Array Value) (w : World) (b : Nat) (x y : Value) (hp : tmps.getD p undef = .pointer (some ⟨b, 0, none⟩)) (ht : Duo w b x y) :
    (results fn tmps).run Tryz.prog w = .ok (.tuple #[.agg #[x, y], tmps.getD q undef]) w := by
  have hp' : tmps[p]?.getD undef = .pointer (some ⟨b, 0, none⟩) := by simpa using hp
  have hl := run_loadVar_mid (P := Tryz.prog) w b 0 35 [x, y] _ (fun j v hj => by
    match j, hj with
    | 0, hj => simp at hj; subst hj; simpa using ht.c0
    | 1, hj => simp at hj; subst hj; simpa using ht.c1
    | j + 2, hj => simp at hj) Tryz.underlying35 rfl (by kernel_rfl)
  simp [results, h, hp', asAddr, hl]
theorem tkUvarN (A : Option Addr) (P : List UInt8) (c at_ e : Nat) (T E : Int) (hT : T = at_) (hE : E = e) (w : World) (hp : RB w A c P) (hl : P.length ≤ 140737488355328) (hat : at_ ≤ P.length) (v a2 e2 : Nat) (hr : uvarS P at_ e = (v, a2, e2)) :
    Calls Tryz.prog 111 #[.agg #[.slice A P.length c, .int .i64 T, .int .i64 E]] w fun e' w' => e' = .returned (.tuple #[.int .u64 v, .agg #[.slice A P.length c, .int .i64 a2, .int .i64 e2]]) ∧ Below w.heap.size w w' := by
  have := takeUvar_calls A P c at_ e E T hE hT w hp hl hat
  rw [hr] at this
  exact this
theorem uvarS_le (P : List UInt8) (at_ e : Nat) (h : at_ ≤ P.length) : (uvarS P at_ e).2.1 ≤ P.length := by
  unfold WireMath.uvarS
  split
  · exact h
  · exact grpLe P at_ h
theorem uvarS_bad0 (P : List UInt8) (at_ e : Nat) (h : (uvarS P at_ e).2.2 ≠ 0) : (uvarS P at_ e).1 = 0 := by
  have hz := WireMath.grpTo_zero (P.drop at_) 0 0
  replace hz : (grpL (P.drop at_)).2 = 0 → (grpL (P.drop at_)).1 = 0 := hz
  unfold WireMath.uvarS at h ⊢
  split
  · rfl
  · rename_i he
    rw [if_neg he] at h
    simp only at h ⊢
    apply hz
    by_cases h9 : (grpL (P.drop at_)).2 = 0
    · exact h9
    · rw [if_neg h9] at h; exact absurd rfl h
theorem uvarS_badE (P : List UInt8) (at_ e : Nat) (h : e ≠ 0) : uvarS P at_ e = (0, at_, e) := by
  unfold WireMath.uvarS; rw [if_pos h]
set_option maxHeartbeats 400000 in
set_option maxRecDepth 100000 in
theorem docbatch_a (A : Option Addr) (P : List UInt8) (n c : Nat) (w : World) (hp : RB w A c P) (hn : n = P.length) (hl : P.length ≤ 140737488355328) (f a1 e1 m a2 e2 : Nat) (hU1 : uvarS P 0 0 = (f, a1, e1)) (hU2 : uvarS P a1 e1 = (m, a2, e2)) (_hf : f ≤ 18446744073709551615) (hm : 64 < m) (hmm2 : m ≤ 18446744073709551615) (e9 : Nat) (he9 : doneE P a2 (failE e2 2) = e9) (h9 : e9 ≠ 0) :
    Calls Tryz.prog 61 #[.slice A n c] w fun r w' => r = .returned (.tuple #[.agg #[.int .u64 0, .slice none 0 0], .int .i64 e9]) ∧ Below w.heap.size w w' := by
  subst hn
  have D0 := Lib.hid (DS.start w (.slice A P.length c) (.int .i64 0) (.int .i64 0))
  have hla1 : a1 ≤ P.length := by have := uvarS_le P 0 0 (Nat.zero_le _); rw [hU1] at this; exact this
  have hla2 : a2 ≤ P.length := by have := uvarS_le P a1 e1 hla1; rw [hU2] at this; exact this
  have HU1 := Lib.hid hU1
  have HU2 := Lib.hid hU2
  have c0 := Lib.hid (show (0 : Int) = ((0 : Nat) : Int) from rfl)
  have x0 := D0.out.rd.c0
  have x1 := D0.out.rd.c1
  have x2 := D0.out.rd.c2
  have cK := Lib.hid (show (2 : Int) = ((2 : Nat) : Int) from rfl)
  have HE9 := Lib.hid he9
  have hb9 : ((e9 : Int) != 0) = true := by rw [bne_iff_ne]; omega
  have hb1 : decide ((64 : Int) < (m : Int)) = true := by rw [decide_eq_true_eq]; omega
  clear hU1 hU2 he9 h9 hm
  go_enter Tryz.func61, Tryz.ntmps61
  go_wp2_with (first
    | (go_at_call 111; (with_reducible refine (tkUvarN A P c 0 0 0 0 c0.out c0.out _ (hp.new D0.out.below) hl (Nat.zero_le _) f a1 e1 HU1.out).mono ?_); rintro s1 w1 ⟨rfl, hb1⟩; have DB1 := D0.out.new hb1; have DC1 := DB1.set0 (.int .u64 f); have D1 := DC1.putR (.slice A P.length c) (.int .i64 a1) (.int .i64 e1); have v0 := DB1.bat.c0; have q0 := DB1.bat.fz 0; have g0 := DC1.rd.c0; have g1 := DC1.rd.c1; have g2 := DC1.rd.c2; have f0 := DC1.rd.fz 0; have f1 := DC1.rd.fz 1; have f2 := DC1.rd.fz 2; have r0 := D1.rd.c0; have r1 := D1.rd.c1; have r2 := D1.rd.c2; have hz1 := D1.rd.lt)
    | (go_at_call 111; (with_reducible refine (tkUvarN A P c a1 e1 a1 e1 rfl rfl _ (hp.new D1.below) hl hla1 m a2 e2 HU2.out).mono ?_); rintro s2 w2 ⟨rfl, hb2⟩; clear v0 q0 g0 g1 g2 f0 f1 f2 r0 r1 r2; have DB2 := D1.new hb2; have D2 := DB2.putR (.slice A P.length c) (.int .i64 a2) (.int .i64 e2); have g0 := DB2.rd.c0; have g1 := DB2.rd.c1; have g2 := DB2.rd.c2; have f0 := DB2.rd.fz 0; have f1 := DB2.rd.fz 1; have f2 := DB2.rd.fz 2; have r0 := D2.rd.c0; have r1 := D2.rd.c1; have r2 := D2.rd.c2; have m0 := D2.bat.c0; have m1 := D2.bat.c1; have hz2 := D2.rd.lt; have z2 := trivial)
    | (go_at_call 113; go_loud (with_reducible refine (dfits_calls f m _ rfl hf hmm _ _ HFB.out).mono ?_); rintro r5 w5 ⟨rfl, rfl⟩)
    | (go_at_call 112; go_loud (with_reducible refine (failed_calls A P.length c a2 2 e2 2 cK.out e2 rfl _).mono ?_); rintro s3 w3 ⟨rfl, hb3⟩; have DB3 := D2.new hb3; have D3 := DB3.putR (.slice A P.length c) (.int .i64 a2) (.int .i64 (failE e2 2)); have g0 := DB3.rd.c0; have g1 := DB3.rd.c1; have g2 := DB3.rd.c2; have f0 := DB3.rd.fz 0; have f1 := DB3.rd.fz 1; have f2 := DB3.rd.fz 2; have r0 := D3.rd.c0; have r1 := D3.rd.c1; have r2 := D3.rd.c2; have hz3 := D3.rd.lt))
  go_loopw [7, 8] (fun iv _ wr => iv = .int .i64 0 ∧ DS w wr (.int .u64 f) (.slice none 0 0) (.slice A P.length c) (.int .i64 a2) (.int .i64 (failE e2 2))) (fun _ _ _ => 0)
  case atStart => exact ⟨rfl, D3⟩
  case round =>
    obtain ⟨rfl, D9⟩ := hrel
    have r0 := D9.rd.c0
    have r1 := D9.rd.c1
    have r2 := D9.rd.c2
    go_wp2_with (go_at_call 115; go_loud (with_reducible refine (rdoneN A P _ c a2 (failE e2 2) _ rfl hla2 e9 HE9.out).mono ?_); rintro s4 w4 ⟨rfl, hb4⟩; have D4 := D9.new hb4; have x0 := D4.res.c0; have x1 := D4.res.c1; have y0 := D4.res.fz 0; have y1 := D4.res.fz 1)
    all_goals exact bodyPost_ret (results_ddb rfl _ _ w.heap.size _ _ rfl ((D4.res.set0 (.int .u64 0)).set1 (.slice none 0 0))) rfl ⟨rfl, (D4.below.setCell (Nat.le_refl _) _).setCell (Nat.le_refl _) _⟩
set_option maxHeartbeats 400000 in
set_option maxRecDepth 100000 in
theorem docbatch_b (A : Option Addr) (P : List UInt8) (n c : Nat) (w : World) (hp : RB w A c P) (hn : n = P.length) (hl : P.length ≤ 140737488355328) (f a1 e1 m a2 e2 : Nat) (hU1 : uvarS P 0 0 = (f, a1, e1)) (hU2 : uvarS P a1 e1 = (m, a2, e2)) (_hf : f ≤ 18446744073709551615) (hm : m = 0) (e9 : Nat) (he9 : doneE P a2 (failE e2 3) = e9) (h9 : e9 ≠ 0) :
    Calls Tryz.prog 61 #[.slice A n c] w fun r w' => r = .returned (.tuple #[.agg #[.int .u64 0, .slice none 0 0], .int .i64 e9]) ∧ Below w.heap.size w w' := by
  subst hn
  have D0 := Lib.hid (DS.start w (.slice A P.length c) (.int .i64 0) (.int .i64 0))
  have hla1 : a1 ≤ P.length := by have := uvarS_le P 0 0 (Nat.zero_le _); rw [hU1] at this; exact this
  have hla2 : a2 ≤ P.length := by have := uvarS_le P a1 e1 hla1; rw [hU2] at this; exact this
  have HU1 := Lib.hid hU1
  have HU2 := Lib.hid hU2
  have c0 := Lib.hid (show (0 : Int) = ((0 : Nat) : Int) from rfl)
  have x0 := D0.out.rd.c0
  have x1 := D0.out.rd.c1
  have x2 := D0.out.rd.c2
  have cK := Lib.hid (show (3 : Int) = ((3 : Nat) : Int) from rfl)
  have HE9 := Lib.hid he9
  have hb9 : ((e9 : Int) != 0) = true := by rw [bne_iff_ne]; omega
  have hb1 : decide ((64 : Int) < (m : Int)) = false := by rw [decide_eq_false_iff_not]; omega
  have hmm : m ≤ 9223372036854775807 := by omega
  have hb2 : ((m : Int) == 0) = true := by rw [beq_iff_eq]; omega
  have hb3 : decide ((0 : Int) < (m : Int)) = false := by rw [decide_eq_false_iff_not]; omega
  clear hU1 hU2 he9 h9 hm
  go_enter Tryz.func61, Tryz.ntmps61
  go_wp2_with (first
    | (go_at_call 111; (with_reducible refine (tkUvarN A P c 0 0 0 0 c0.out c0.out _ (hp.new D0.out.below) hl (Nat.zero_le _) f a1 e1 HU1.out).mono ?_); rintro s1 w1 ⟨rfl, hb1⟩; have DB1 := D0.out.new hb1; have DC1 := DB1.set0 (.int .u64 f); have D1 := DC1.putR (.slice A P.length c) (.int .i64 a1) (.int .i64 e1); have v0 := DB1.bat.c0; have q0 := DB1.bat.fz 0; have g0 := DC1.rd.c0; have g1 := DC1.rd.c1; have g2 := DC1.rd.c2; have f0 := DC1.rd.fz 0; have f1 := DC1.rd.fz 1; have f2 := DC1.rd.fz 2; have r0 := D1.rd.c0; have r1 := D1.rd.c1; have r2 := D1.rd.c2; have hz1 := D1.rd.lt)
    | (go_at_call 111; (with_reducible refine (tkUvarN A P c a1 e1 a1 e1 rfl rfl _ (hp.new D1.below) hl hla1 m a2 e2 HU2.out).mono ?_); rintro s2 w2 ⟨rfl, hb2⟩; clear v0 q0 g0 g1 g2 f0 f1 f2 r0 r1 r2; have DB2 := D1.new hb2; have D2 := DB2.putR (.slice A P.length c) (.int .i64 a2) (.int .i64 e2); have g0 := DB2.rd.c0; have g1 := DB2.rd.c1; have g2 := DB2.rd.c2; have f0 := DB2.rd.fz 0; have f1 := DB2.rd.fz 1; have f2 := DB2.rd.fz 2; have r0 := D2.rd.c0; have r1 := D2.rd.c1; have r2 := D2.rd.c2; have m0 := D2.bat.c0; have m1 := D2.bat.c1; have hz2 := D2.rd.lt; have z2 := trivial)
    | (go_at_call 113; go_loud (with_reducible refine (dfits_calls f m _ rfl hf hmm _ _ HFB.out).mono ?_); rintro r5 w5 ⟨rfl, rfl⟩)
    | (go_at_call 112; go_loud (with_reducible refine (failed_calls A P.length c a2 3 e2 3 cK.out e2 rfl _).mono ?_); rintro s3 w3 ⟨rfl, hb3⟩; have DB3 := D2.new hb3; have D3 := DB3.putR (.slice A P.length c) (.int .i64 a2) (.int .i64 (failE e2 3)); have g0 := DB3.rd.c0; have g1 := DB3.rd.c1; have g2 := DB3.rd.c2; have f0 := DB3.rd.fz 0; have f1 := DB3.rd.fz 1; have f2 := DB3.rd.fz 2; have r0 := D3.rd.c0; have r1 := D3.rd.c1; have r2 := D3.rd.c2; have hz3 := D3.rd.lt))
  go_loopw [7, 8] (fun iv _ wr => iv = .int .i64 0 ∧ DS w wr (.int .u64 f) (.slice none 0 0) (.slice A P.length c) (.int .i64 a2) (.int .i64 (failE e2 3))) (fun _ _ _ => 0)
  case atStart => exact ⟨rfl, D3⟩
  case round =>
    obtain ⟨rfl, D9⟩ := hrel
    have r0 := D9.rd.c0
    have r1 := D9.rd.c1
    have r2 := D9.rd.c2
    go_wp2_with (go_at_call 115; go_loud (with_reducible refine (rdoneN A P _ c a2 (failE e2 3) _ rfl hla2 e9 HE9.out).mono ?_); rintro s4 w4 ⟨rfl, hb4⟩; have D4 := D9.new hb4; have x0 := D4.res.c0; have x1 := D4.res.c1; have y0 := D4.res.fz 0; have y1 := D4.res.fz 1)
    all_goals exact bodyPost_ret (results_ddb rfl _ _ w.heap.size _ _ rfl ((D4.res.set0 (.int .u64 0)).set1 (.slice none 0 0))) rfl ⟨rfl, (D4.below.setCell (Nat.le_refl _) _).setCell (Nat.le_refl _) _⟩
set_option maxHeartbeats 400000 in
set_option maxRecDepth 100000 in
theorem docbatch_c (A : Option Addr) (P : List UInt8) (n c : Nat) (w : World) (hp : RB w A c P) (hn : n = P.length) (hl : P.length ≤ 140737488355328) (f a1 e1 m a2 e2 : Nat) (hU1 : uvarS P 0 0 = (f, a1, e1)) (hU2 : uvarS P a1 e1 = (m, a2, e2)) (hf : f ≤ 18446744073709551615) (hm : m ≤ 64) (_hm0 : m ≠ 0) (hm1 : 18446744073709551616 ≤ f + m) (e9 : Nat) (he9 : doneE P a2 (failE e2 3) = e9) (h9 : e9 ≠ 0) :
    Calls Tryz.prog 61 #[.slice A n c] w fun r w' => r = .returned (.tuple #[.agg #[.int .u64 0, .slice none 0 0], .int .i64 e9]) ∧ Below w.heap.size w w' := by
  subst hn
  have D0 := Lib.hid (DS.start w (.slice A P.length c) (.int .i64 0) (.int .i64 0))
  have hla1 : a1 ≤ P.length := by have := uvarS_le P 0 0 (Nat.zero_le _); rw [hU1] at this; exact this
  have hla2 : a2 ≤ P.length := by have := uvarS_le P a1 e1 hla1; rw [hU2] at this; exact this
  have HU1 := Lib.hid hU1
  have HU2 := Lib.hid hU2
  have c0 := Lib.hid (show (0 : Int) = ((0 : Nat) : Int) from rfl)
  have x0 := D0.out.rd.c0
  have x1 := D0.out.rd.c1
  have x2 := D0.out.rd.c2
  have cK := Lib.hid (show (3 : Int) = ((3 : Nat) : Int) from rfl)
  have HE9 := Lib.hid he9
  have hb9 : ((e9 : Int) != 0) = true := by rw [bne_iff_ne]; omega
  have hb1 : decide ((64 : Int) < (m : Int)) = false := by rw [decide_eq_false_iff_not]; omega
  have hmm : m ≤ 9223372036854775807 := by omega
  have hb2 : ((m : Int) == 0) = false := by rw [beq_eq_false_iff_ne]; omega
  have hb3 : decide ((0 : Int) < (m : Int)) = true := by rw [decide_eq_true_eq]; omega
  have hb4 : (((failE e2 3 : Nat) : Int) == 0) = false := by rw [beq_eq_false_iff_ne]; unfold failE; split <;> omega
  have HFB := Lib.hid (show decide (f + m < 18446744073709551616) = false by rw [decide_eq_false_iff_not]; omega)
  clear hU1 hU2 he9 h9 hm1
  go_enter Tryz.func61, Tryz.ntmps61
  go_wp2_with (first
    | (go_at_call 111; (with_reducible refine (tkUvarN A P c 0 0 0 0 c0.out c0.out _ (hp.new D0.out.below) hl (Nat.zero_le _) f a1 e1 HU1.out).mono ?_); rintro s1 w1 ⟨rfl, hb1⟩; have DB1 := D0.out.new hb1; have DC1 := DB1.set0 (.int .u64 f); have D1 := DC1.putR (.slice A P.length c) (.int .i64 a1) (.int .i64 e1); have v0 := DB1.bat.c0; have q0 := DB1.bat.fz 0; have g0 := DC1.rd.c0; have g1 := DC1.rd.c1; have g2 := DC1.rd.c2; have f0 := DC1.rd.fz 0; have f1 := DC1.rd.fz 1; have f2 := DC1.rd.fz 2; have r0 := D1.rd.c0; have r1 := D1.rd.c1; have r2 := D1.rd.c2; have hz1 := D1.rd.lt)
    | (go_at_call 111; (with_reducible refine (tkUvarN A P c a1 e1 a1 e1 rfl rfl _ (hp.new D1.below) hl hla1 m a2 e2 HU2.out).mono ?_); rintro s2 w2 ⟨rfl, hb2⟩; clear v0 q0 g0 g1 g2 f0 f1 f2 r0 r1 r2; have DB2 := D1.new hb2; have D2 := DB2.putR (.slice A P.length c) (.int .i64 a2) (.int .i64 e2); have g0 := DB2.rd.c0; have g1 := DB2.rd.c1; have g2 := DB2.rd.c2; have f0 := DB2.rd.fz 0; have f1 := DB2.rd.fz 1; have f2 := DB2.rd.fz 2; have r0 := D2.rd.c0; have r1 := D2.rd.c1; have r2 := D2.rd.c2; have m0 := D2.bat.c0; have m1 := D2.bat.c1; have hz2 := D2.rd.lt; have z2 := trivial)
    | (go_at_call 113; go_loud (with_reducible refine (dfits_calls f m _ rfl hf hmm _ _ HFB.out).mono ?_); rintro r5 w5 ⟨rfl, rfl⟩)
    | (go_at_call 112; go_loud (with_reducible refine (failed_calls A P.length c a2 3 e2 3 cK.out e2 rfl _).mono ?_); rintro s3 w3 ⟨rfl, hb3⟩; have DB3 := D2.new hb3; have D3 := DB3.putR (.slice A P.length c) (.int .i64 a2) (.int .i64 (failE e2 3)); have g0 := DB3.rd.c0; have g1 := DB3.rd.c1; have g2 := DB3.rd.c2; have f0 := DB3.rd.fz 0; have f1 := DB3.rd.fz 1; have f2 := DB3.rd.fz 2; have r0 := D3.rd.c0; have r1 := D3.rd.c1; have r2 := D3.rd.c2; have hz3 := D3.rd.lt))
  go_loopw [7, 8] (fun iv _ wr => iv = .int .i64 0 ∧ DS w wr (.int .u64 f) (.slice none 0 0) (.slice A P.length c) (.int .i64 a2) (.int .i64 (failE e2 3))) (fun _ _ _ => 0)
  case atStart => exact ⟨rfl, D3⟩
  case round =>
    obtain ⟨rfl, D9⟩ := hrel
    have r0 := D9.rd.c0
    have r1 := D9.rd.c1
    have r2 := D9.rd.c2
    go_wp2_with (go_at_call 115; go_loud (with_reducible refine (rdoneN A P _ c a2 (failE e2 3) _ rfl hla2 e9 HE9.out).mono ?_); rintro s4 w4 ⟨rfl, hb4⟩; have D4 := D9.new hb4; have x0 := D4.res.c0; have x1 := D4.res.c1; have y0 := D4.res.fz 0; have y1 := D4.res.fz 1)
    all_goals exact bodyPost_ret (results_ddb rfl _ _ w.heap.size _ _ rfl ((D4.res.set0 (.int .u64 0)).set1 (.slice none 0 0))) rfl ⟨rfl, (D4.below.setCell (Nat.le_refl _) _).setCell (Nat.le_refl _) _⟩
end Go.Proofs.YtpmnnnbkbcpgjaaGreatDoor

/- The walk of notaryref05.DocDecodeBatch: its loop. -/
namespace Go.Proofs.YtpmnnnbkbcpgjaaGreatDoor
open Go.RowKit
open WireMath (numS beN rawS blobS uvarS grpL uvarL wideL)
attribute [local go_sem ↓] Go.wp_at_zero Go.wp_at_succ

/-- where the loop of DocDecodeBatch stands -/
def LoopAt (P : List UInt8) (m a2 j at_ e : Nat) (l : List En) : Prop := (e = 0 ∧ entsS P m a2 = ⟨(entsS P (m - j) at_).e, l ++ (entsS P (m - j) at_).l, (entsS P (m - j) at_).at_⟩) ∨ (e ≠ 0 ∧ (entsS P m a2).e = e)
theorem LoopAt.next {P : List UInt8} {m a2 j at_ : Nat} {l : List En} (h : LoopAt P m a2 j at_ 0 l) (hj : j < m) (t : TkR) (ht : takeR P at_ 0 = t) : LoopAt P m a2 (j + 1) t.at_ t.e (l ++ [t.v]) := by
  rcases h with ⟨_, h⟩ | ⟨h, _⟩
  · obtain ⟨h1, h2⟩ := takeR_entS P at_
    rw [ht] at h1 h2
    have hs : m - j = (m - (j + 1)) + 1 := by omega
    rw [hs, entsS] at h
    by_cases he : (entS P at_).e ≠ 0
    · rw [if_pos he] at h
      exact .inr ⟨by omega, by rw [h, h1]⟩
    · obtain ⟨h3, h4⟩ := h2 (by omega)
      rw [if_neg he] at h
      exact .inl ⟨by omega, by rw [h, h3, h4]; simp⟩
  · exact absurd rfl h
theorem LoopAt.done {P : List UInt8} {m a2 j at_ e f : Nat} {l : List En} (h : LoopAt P m a2 j at_ e l) (hj : e ≠ 0 ∨ j = m) : batF P f m a2 = if doneE P at_ e ≠ 0 then batNo (doneE P at_ e) else ⟨0, f, l⟩ := by
  unfold batF
  rcases h with ⟨rfl, h⟩ | ⟨he, h⟩
  · obtain rfl : j = m := hj.elim (fun h => absurd rfl h) id
    rw [Nat.sub_self, entsS] at h
    rw [h]
    simp
  · have : doneE P at_ e = e := by unfold doneE; rw [if_pos (.inl he)]
    rw [h, if_pos he, this, if_pos he]
theorem takeR_k (P : List UInt8) (at_ e : Nat) : (takeR P at_ e).v.k ≤ 255 := by
  have := numS_lt P at_ e 1
  unfold takeR
  split
  · show 1 ≤ 255; omega
  · split
    · show 2 ≤ 255; omega
    · show (numS P at_ e 1).1 ≤ 255; omega
theorem tri_atK (w : World) (k : Nat) (hk : w.heap.size = k) (x y z : Value) (t : TypeId) : (w.alloc (.cells #[x, y, z] t)).cell? ((⟨k, 0, none⟩ : Addr).add 0) = some x ∧ (w.alloc (.cells #[x, y, z] t)).cell? ((⟨k, 0, none⟩ : Addr).add 1) = some y ∧ (w.alloc (.cells #[x, y, z] t)).cell? ((⟨k, 0, none⟩ : Addr).add 2) = some z := by
  subst hk; exact tri_at w x y z t
theorem DS.tri {w0 w : World} {g0 g1 r0 r1 r2 : Value} (_h : DS w0 w g0 g1 r0 r1 r2) (k : Nat) (hk : w.heap.size = k) (x y z : Value) (t : TypeId) : (w.alloc (.cells #[x, y, z] t)).cell? ((⟨k, 0, none⟩ : Addr).add 0) = some x ∧ (w.alloc (.cells #[x, y, z] t)).cell? ((⟨k, 0, none⟩ : Addr).add 1) = some y ∧ (w.alloc (.cells #[x, y, z] t)).cell? ((⟨k, 0, none⟩ : Addr).add 2) = some z := tri_atK w k hk x y z t
theorem heap_put3 (w : World) (g k : Nat) (x y z : Value) (h : k ≠ g) : (((w.setCell ⟨g, 0, none⟩ x).setCell ⟨g, 1, none⟩ y).setCell ⟨g, 2, none⟩ z).heap[k]? = w.heap[k]? :=
  ((heap_setCell_other _ _ _ _ (by show k ≠ g; omega)).trans (heap_setCell_other _ _ _ _ (by show k ≠ g; omega))).trans (heap_setCell_other _ _ _ _ (by show k ≠ g; omega))
theorem put3_size (w : World) (g : Nat) (x y z : Value) : (((w.setCell ⟨g, 0, none⟩ x).setCell ⟨g, 1, none⟩ y).setCell ⟨g, 2, none⟩ z).heap.size = w.heap.size := by simp [World.setCell]
/-- a batch's answer, in new memory -/
structure BatE (w w' : World) (A : Option Addr) (n : Nat) (l : List En) : Prop where
  out : ∃ es c1, ensOf es = l ∧ n = es.length ∧ EL w' w.heap.size (.slice A es.length c1) es.length es
  below : Below w.heap.size w w'
theorem BatE.at {w w' : World} {A : Option Addr} {n : Nat} {l : List En} (h : BatE w w' A n l) : BatAt w w' A n l := ⟨let ⟨es, _, h1, h2, h3⟩ := h.out; ⟨es, h1, h2, h3.reads⟩, h.below⟩
set_option maxHeartbeats 400000 in
set_option maxRecDepth 100000 in
theorem docbatch_main (A : Option Addr) (P : List UInt8) (n c : Nat) (w : World) (hp : RB w A c P) (hn : n = P.length) (hl : P.length ≤ 140737488355328) (f a1 e1 m a2 e2 : Nat) (hU1 : uvarS P 0 0 = (f, a1, e1)) (hU2 : uvarS P a1 e1 = (m, a2, e2)) (he2 : e2 = 0) (hf : f ≤ 18446744073709551615) (hm : m ≤ 64) (hmz : m ≠ 0) (hm1 : f + m < 18446744073709551616) (t : Bat) (ht : batF P f m a2 = t) :
    Calls Tryz.prog 61 #[.slice A n c] w fun r w' => ∃ A' c', r = .returned (.tuple #[.agg #[.int .u64 t.f, .slice A' t.l.length c'], .int .i64 t.e]) ∧ BatE w w' A' t.l.length t.l := by
  subst hn
  have D0 := Lib.hid (DS.start w (.slice A P.length c) (.int .i64 0) (.int .i64 0))
  have hla1 : a1 ≤ P.length := by have := uvarS_le P 0 0 (Nat.zero_le _); rw [hU1] at this; exact this
  have hla2 : a2 ≤ P.length := by have := uvarS_le P a1 e1 hla1; rw [hU2] at this; exact this
  have HU1 := Lib.hid hU1
  have HU2 := Lib.hid hU2
  have c0 := Lib.hid (show (0 : Int) = ((0 : Nat) : Int) from rfl)
  have x0 := D0.out.rd.c0
  have x1 := D0.out.rd.c1
  have x2 := D0.out.rd.c2
  have hb1 : decide ((64 : Int) < (m : Int)) = false := by rw [decide_eq_false_iff_not]; omega
  have hb2 : ((m : Int) == 0) = false := by rw [beq_eq_false_iff_ne]; omega
  have hmm : m ≤ 9223372036854775807 := by omega
  have HFB := Lib.hid (show decide (f + m < 18446744073709551616) = true by rw [decide_eq_true_eq]; omega)
  have HTT := Lib.hid ht
  have HE2 := Lib.hid he2
  clear hU1 hU2 hm1 ht hmz he2
  go_enter Tryz.func61, Tryz.ntmps61
  go_wp2_with (first
    | (go_at_call 111; (with_reducible refine (tkUvarN A P c 0 0 0 0 c0.out c0.out _ (hp.new D0.out.below) hl (Nat.zero_le _) f a1 e1 HU1.out).mono ?_); rintro s1 w1 ⟨rfl, hb1⟩; have DB1 := D0.out.new hb1; have DC1 := DB1.set0 (.int .u64 f); have D1 := DC1.putR (.slice A P.length c) (.int .i64 a1) (.int .i64 e1); have v0 := DB1.bat.c0; have q0 := DB1.bat.fz 0; have g0 := DC1.rd.c0; have g1 := DC1.rd.c1; have g2 := DC1.rd.c2; have f0 := DC1.rd.fz 0; have f1 := DC1.rd.fz 1; have f2 := DC1.rd.fz 2; have r0 := D1.rd.c0; have r1 := D1.rd.c1; have r2 := D1.rd.c2; have hz1 := D1.rd.lt)
    | (go_at_call 111; (with_reducible refine (tkUvarN A P c a1 e1 a1 e1 rfl rfl _ (hp.new D1.below) hl hla1 m a2 e2 HU2.out).mono ?_); rintro s2 w2 ⟨rfl, hb2⟩; clear v0 q0 g0 g1 g2 f0 f1 f2 r0 r1 r2; have DB2 := D1.new hb2; have D2 := DB2.putR (.slice A P.length c) (.int .i64 a2) (.int .i64 e2); have g0 := DB2.rd.c0; have g1 := DB2.rd.c1; have g2 := DB2.rd.c2; have f0 := DB2.rd.fz 0; have f1 := DB2.rd.fz 1; have f2 := DB2.rd.fz 2; have r0 := D2.rd.c0; have r1 := D2.rd.c1; have r2 := D2.rd.c2; have m0 := D2.bat.c0; have m1 := D2.bat.c1; have hz2 := D2.rd.lt; have z2 := trivial)
    | (go_at_call 113; go_loud (with_reducible refine (dfits_calls f m _ rfl hf hmm _ _ HFB.out).mono ?_); rintro r5 w5 ⟨rfl, rfl⟩))
  have hbase : w.heap.size + 1 + 1 < w2.heap.size := DB2.rd.lt
  go_loopw [7, 8] (fun iv _ wr => ∃ (j at_ e : Nat) (ds : List EnX) (A1 : Option Addr) (c1 : Nat), j ≤ m ∧ iv = .int .i64 j ∧ at_ ≤ P.length ∧ DS w wr (.int .u64 f) (.slice A1 j c1) (.slice A P.length c) (.int .i64 at_) (.int .i64 e) ∧ EL wr w2.heap.size (.slice A1 j c1) j ds ∧ w2.heap.size ≤ wr.heap.size ∧ Hid (LoopAt P m a2 j at_ e (ensOf ds))) (fun iv _ _ => m - (intOf iv).toNat)
  case atStart => exact ⟨0, a2, e2, [], none, 0, Nat.zero_le _, rfl, hla2, D2, EL.nil _ _, by simp [World.setCell], Lib.hid (.inl ⟨HE2.out, by simp [ensOf]⟩)⟩
  case round =>
    clear g0 g1 g2 f0 f1 f2 r0 r1 r2 m0 m1 hz1 hz2 DB1 DC1 D1 DB2 D2 z2
    obtain ⟨j, at_, e, ds, A1, c1, hj, rfl, hat, DD, HEL, hw1, HLA⟩ := hrel
    have r0 := DD.rd.c0
    have r1 := DD.rd.c1
    have r2 := DD.rd.c2
    have m0 := DD.bat.c0
    have m1 := DD.bat.c1
    have p1 := DD.bat.fz 1
    have hzr := DD.rd.lt
    by_cases hgo : j < m ∧ e = 0
    · obtain ⟨hlt, he0⟩ := hgo
      have hbe : ((e : Int) == 0) = true := by rw [beq_iff_eq]; omega
      have HE0 := Lib.hid he0
      have hla := HLA.out
      rw [he0] at hla
      obtain ⟨tt, htt⟩ : ∃ tt, takeR P at_ 0 = tt := ⟨_, rfl⟩
      have HNX := Lib.hid (hla.next hlt tt htt)
      have HTK := Lib.hid (show takeR P at_ e = tt by rw [he0]; exact htt)
      have hle : tt.at_ ≤ P.length := by rw [← htt]; exact takeR_le P at_ 0 hat
      have HKV : Hid (tt.v.k ≤ 255) := Lib.hid (by rw [← htt]; exact takeR_k P at_ 0)
      clear htt he0 hla HLA
      have DA := DD.new (below_alloc1 (Below.refl _ _) (Nat.le_refl _) (.cells #[.int .u8 0, .slice none 0 0, .slice none 0 0] 72))
      have LA := Lib.hid (HEL.new (below_alloc1 (Below.refl _ _) (Nat.le_refl _) (.cells #[.int .u8 0, .slice none 0 0, .slice none 0 0] 72)))
      have TA := Lib.hid (Trio.fresh wr wr.heap.size rfl (.int .u8 0) (.slice none 0 0) (.slice none 0 0) 72)
      have HROW := Lib.hid HEL.lt
      have c00 := Lib.hid (show (0 : Int) = ((0 : Nat) : Int) from rfl)
      go_wp2_with (first
        | (go_at_call 114; go_loud (with_reducible refine (dtake_calls A P _ c at_ e _ _ rfl rfl _ (hp.new DA.below) rfl hl hat tt HTK.out).mono ?_); rintro s5 w5 ⟨a5, rfl, hn5⟩; have TB5 := TA.out.new hn5.below; have DB5 := (DA.new hn5.below); have DC5 := DB5.far3 (g := wr.heap.size) (x := .int .u8 tt.v.k) (y := .slice a5.KA tt.v.K.length a5.kc) (z := .slice a5.VA tt.v.V.length a5.vc) hzr; have D5 := DC5.putR (.slice A P.length c) (.int .i64 tt.at_) (.int .i64 tt.e); have T5 := (TB5.put (.int .u8 tt.v.k) (.slice a5.KA tt.v.K.length a5.kc) (.slice a5.VA tt.v.V.length a5.vc)).other3 (g := w.heap.size + 1 + 1) (u := .slice A P.length c) (v := .int .i64 tt.at_) (t := .int .i64 tt.e) (by omega); have K5 := Lib.hid ((hn5.K.low3 (g := wr.heap.size) (x := .int .u8 tt.v.k) (y := .slice a5.KA tt.v.K.length a5.kc) (z := .slice a5.VA tt.v.V.length a5.vc) (by rw [asz]; omega)).low3 (g := w.heap.size + 1 + 1) (x := .slice A P.length c) (y := .int .i64 tt.at_) (z := .int .i64 tt.e) (by rw [asz]; omega)); have V5 := Lib.hid ((hn5.V.low3 (g := wr.heap.size) (x := .int .u8 tt.v.k) (y := .slice a5.KA tt.v.K.length a5.kc) (z := .slice a5.VA tt.v.V.length a5.vc) (by rw [asz]; omega)).low3 (g := w.heap.size + 1 + 1) (x := .slice A P.length c) (y := .int .i64 tt.at_) (z := .int .i64 tt.e) (by rw [asz]; omega)); have R5 := Lib.hid (hn5.far (base := w2.heap.size) (v := .slice A1 j c1) (by rw [asz]; omega) (fun k e9 => by have := (HROW.out k e9).2; rw [asz]; omega)); have L5 := Lib.hid (HEL.keep (fun k h1 h2 => (heap_put3 _ (w.heap.size + 1 + 1) k (.slice A P.length c) (.int .i64 tt.at_) (.int .i64 tt.e) (by omega)).trans ((heap_put3 _ wr.heap.size k (.int .u8 tt.v.k) (.slice a5.KA tt.v.K.length a5.kc) (.slice a5.VA tt.v.V.length a5.vc) (by omega)).trans ((hn5.below.block k (by rw [asz]; omega)).trans ((below_alloc1 (Below.refl wr.heap.size wr) (Nat.le_refl _) (.cells #[.int .u8 0, .slice none 0 0, .slice none 0 0] 72)).block k h2))))); have b0 := TB5.c0; have b1 := TB5.c1; have b2 := TB5.c2; have l0 := TB5.fz 0; have l1 := TB5.fz 1; have l2 := TB5.fz 2; have g0 := DC5.rd.c0; have g1 := DC5.rd.c1; have g2 := DC5.rd.c2; have f0 := DC5.rd.fz 0; have f1 := DC5.rd.fz 1; have f2 := DC5.rd.fz 2; have s0 := T5.c0; have s1 := T5.c1; have s2 := T5.c2; have n1 := D5.bat.c1; have k1 := D5.bat.fz 1; have hz5 := D5.bat.lt; have hs5 := hn5.below.size; have C5 := Lib.hid (D5.tri w5.heap.size (by rw [put3_size, put3_size]) (.int .u8 tt.v.k) (.slice a5.KA tt.v.K.length a5.kc) (.slice a5.VA tt.v.V.length a5.vc) 72); have M5 := Lib.hid (L5.out.new (below_alloc1 (Below.refl _ _) (Nat.le_refl _) (.cells #[.int .u8 tt.v.k, .slice a5.KA tt.v.K.length a5.kc, .slice a5.VA tt.v.V.length a5.vc] 72))); have O5 : Hid (EnOk _ tt.v a5) := Lib.hid (EnOk.new ⟨HKV.out, K5.out.rb, V5.out.rb⟩ (below_alloc1 (Below.refl _ _) (Nat.le_refl _) (.cells #[.int .u8 tt.v.k, .slice a5.KA tt.v.K.length a5.kc, .slice a5.VA tt.v.V.length a5.vc] 72))); have S5 : Hid (w2.heap.size ≤ w5.heap.size + 1) := Lib.hid (by rw [asz] at hs5; omega))
        | (refine wp_appendE ent rfl (.tmp 56) (.tmp 58) rfl w2.heap.size (.slice A1 j c1) j ds rfl ?_ (tt.v, a5) ⟨w5.heap.size, 0, Option.none⟩ ?_ ?_ ?_ ?_ ?_ ?_ ?_ ?_ ?_; (with_reducible exact M5.out); rfl; (with_reducible exact C5.out.1); (with_reducible exact C5.out.2.1); (with_reducible exact C5.out.2.2); (with_reducible exact O5.out); (with_reducible exact R5.out); omega; (rw [asz, put3_size, put3_size]; exact S5.out); intro A' c' w7 hl7 hg7; have DB7 := (D5.new (below_alloc1 (Below.refl _ _) (Nat.le_refl _) (.cells #[.int .u8 tt.v.k, .slice a5.KA tt.v.K.length a5.kc, .slice a5.VA tt.v.V.length a5.vc] 72))).grown hg7 (fun k e9 => by have := (HROW.out k e9).1; omega); have n1 := DB7.bat.c1; have k1 := DB7.bat.fz 1; have z7 := hg7.size))
      go_roundw
      case rel => exact ⟨j + 1, tt.at_, tt.e, ds ++ [(tt.v, a5)], A', c', by omega, by go_num, hle, DB7.set1 _, hl7.setLow (by omega), by have h9 := S5.out; rw [asz, put3_size, put3_size] at z7; simp [World.setCell]; omega, Lib.hid (by have := HNX.out; rw [show ensOf (ds ++ [(tt.v, a5)]) = ensOf ds ++ [tt.v] by simp [ensOf]]; exact this)⟩
      case measure => simp [intOf]; omega
    · have hex : e ≠ 0 ∨ j = m := by omega
      have HBD := Lib.hid ((HLA.out.done (f := f) hex).symm.trans HTT.out)
      obtain ⟨e9, he9⟩ : ∃ e9, doneE P at_ e = e9 := ⟨_, rfl⟩
      have HE9 := Lib.hid he9
      have HGO : Hid (j < m → e ≠ 0) := Lib.hid (fun h h2 => hgo ⟨h, h2⟩)
      clear hex hgo he9 HLA
      have hg2 : (¬ j < m) ∨ (j < m ∧ ((e : Int) == 0) = false) := by
        by_cases h : j < m
        · exact .inr ⟨h, by rw [beq_eq_false_iff_ne]; have := HGO.out h; omega⟩
        · exact .inl h
      by_cases h0 : e9 = 0
      · have hb9 : ((e9 : Int) != 0) = false := by rw [bne_eq_false_iff_eq]; omega
        have hbd := HBD.out
        rw [HE9.out, h0, if_neg (by decide)] at hbd
        subst hbd
        clear h0
        rcases hg2 with q1 | ⟨q1, q2⟩
        all_goals
          go_wp2_with (go_at_call 115; go_loud (with_reducible refine (rdoneN A P _ c at_ e _ rfl hat e9 HE9.out).mono ?_); rintro s4 w4 ⟨rfl, hb4⟩; have D4 := DD.new hb4; have x0 := D4.res.c0; have x1 := D4.res.c1; have y0 := D4.res.fz 0; have y1 := D4.res.fz 1; have n0 := D4.bat.c0; have n1 := D4.bat.c1)
        all_goals
          have hjl : j = (ensOf ds).length := by have := HEL.len; simp [ensOf]; omega
          have HE4 := ((HEL.new hb4).setLow (g := w.heap.size) (j := 0) (u := .int .u64 f) (by omega)).setLow (g := w.heap.size) (j := 1) (u := .slice A1 j c1) (by omega)
          refine bodyPost_ret (results_ddb rfl _ _ w.heap.size _ _ rfl ((D4.res.set0 (.int .u64 f)).set1 (.slice A1 j c1))) rfl ?_
          have H35 : BatE w _ A1 (ensOf ds).length (ensOf ds) := ⟨⟨ds, c1, rfl, by simp [ensOf], by rw [← HEL.len]; exact HE4.monoK (by omega)⟩, belowS (g := w.heap.size) (j := 1) (belowS (g := w.heap.size) (j := 0) D4.below (Nat.le_refl _) (.int .u64 f)) (Nat.le_refl _) (.slice A1 j c1)⟩
          first
            | exact ⟨A1, ⟨c1, by rw [← hjl]; rfl⟩, H35⟩
            | exact ⟨A1, c1, by rw [← hjl]; rfl, H35⟩
      · have hb9 : ((e9 : Int) != 0) = true := by rw [bne_iff_ne]; omega
        have hbd := HBD.out
        rw [HE9.out, if_pos h0] at hbd
        subst hbd
        clear h0
        rcases hg2 with q1 | ⟨q1, q2⟩
        all_goals
          go_wp2_with (go_at_call 115; go_loud (with_reducible refine (rdoneN A P _ c at_ e _ rfl hat e9 HE9.out).mono ?_); rintro s4 w4 ⟨rfl, hb4⟩; have D4 := DD.new hb4; have x0 := D4.res.c0; have x1 := D4.res.c1; have y0 := D4.res.fz 0; have y1 := D4.res.fz 1)
        all_goals
          refine bodyPost_ret (results_ddb rfl _ _ w.heap.size _ _ rfl ((D4.res.set0 (.int .u64 0)).set1 (.slice none 0 0))) rfl ?_
          have H35 : BatE w _ none (batNo e9).l.length (batNo e9).l := ⟨⟨[], 0, rfl, rfl, EL.nil _ _⟩, belowS (g := w.heap.size) (j := 1) (belowS (g := w.heap.size) (j := 0) D4.below (Nat.le_refl _) (.int .u64 0)) (Nat.le_refl _) (.slice none 0 0)⟩
          first
            | exact ⟨none, 0, rfl, H35⟩
            | exact ⟨none, ⟨0, rfl⟩, H35⟩
end Go.Proofs.YtpmnnnbkbcpgjaaGreatDoor

/- notaryref05.DocDecodeBatch, joined. -/
namespace Go.Proofs.YtpmnnnbkbcpgjaaGreatDoor
open Go.RowKit
open WireMath (numS beN rawS blobS uvarS grpL uvarL wideL)

theorem docBatNo {A : Option Addr} {n c : Nat} {w : World} {t : Bat} {e e9 : Nat} (ht : batNo e = t) (he : e9 = e)
    (h : Calls Tryz.prog 61 #[.slice A n c] w fun r w' => r = .returned (.tuple #[.agg #[.int .u64 0, .slice none 0 0], .int .i64 e9]) ∧ Below w.heap.size w w') :
    Calls Tryz.prog 61 #[.slice A n c] w fun r w' => ∃ A' c', r = .returned (.tuple #[.agg #[.int .u64 t.f, .slice A' t.l.length c'], .int .i64 t.e]) ∧ BatE w w' A' t.l.length t.l := by
  subst ht; subst he
  refine h.mono ?_
  rintro r w' ⟨rfl, hb⟩
  exact ⟨none, 0, rfl, ⟨⟨[], 0, rfl, rfl, EL.nil _ _⟩, hb⟩⟩
theorem doneE_bad (P : List UInt8) (at_ e : Nat) (h : e ≠ 0) : doneE P at_ e = e := by unfold doneE; rw [if_pos (.inl h)]
theorem docDecodeBE_calls (A : Option Addr) (P : List UInt8) (n c : Nat) (w : World) (hp : RB w A c P) (hn : n = P.length) (hl : P.length ≤ 140737488355328) (t : Bat) (ht : decB P = t) :
    Calls Tryz.prog 61 #[.slice A n c] w fun r w' => ∃ A' c', r = .returned (.tuple #[.agg #[.int .u64 t.f, .slice A' t.l.length c'], .int .i64 t.e]) ∧ BatE w w' A' t.l.length t.l := by
  unfold decB at ht
  have hf := uvarS_lt P 0 0
  obtain ⟨f, a1, e1, h1⟩ : ∃ f a1 e1, uvarS P 0 0 = (f, a1, e1) := ⟨_, _, _, rfl⟩
  rw [h1] at ht hf
  simp only at ht hf
  by_cases z1 : e1 ≠ 0
  · rw [if_pos z1] at ht
    have h2 := uvarS_badE P a1 e1 z1
    have hfl : failE e1 3 = e1 := by unfold failE; rw [if_neg z1]
    have hd : doneE P a1 (failE e1 3) = e1 := by rw [hfl]; exact doneE_bad _ _ _ z1
    exact docBatNo ht rfl (docbatch_b A P n c w hp hn hl f a1 e1 0 a1 e1 h1 h2 hf rfl e1 hd z1)
  · rw [if_neg z1] at ht
    have z1' : e1 = 0 := by omega
    subst z1'
    have hm := uvarS_lt P a1 0
    have hb0 := uvarS_bad0 P a1 0
    obtain ⟨m, a2, e2, h2⟩ : ∃ m a2 e2, uvarS P a1 0 = (m, a2, e2) := ⟨_, _, _, rfl⟩
    rw [h2] at ht hm hb0
    simp only at ht hm hb0
    by_cases z2 : e2 ≠ 0
    · rw [if_pos z2] at ht
      have hfl : failE e2 3 = e2 := by unfold failE; rw [if_neg z2]
      have hd : doneE P a2 (failE e2 3) = e2 := by rw [hfl]; exact doneE_bad _ _ _ z2
      exact docBatNo ht rfl (docbatch_b A P n c w hp hn hl f a1 0 m a2 e2 h1 h2 hf (hb0 z2) e2 hd z2)
    · rw [if_neg z2] at ht
      have z2' : e2 = 0 := by omega
      subst z2'
      by_cases h3 : 64 < m
      · rw [if_pos h3] at ht
        exact docBatNo ht rfl (docbatch_a A P n c w hp hn hl f a1 0 m a2 0 h1 h2 hf h3 hm 2 (doneE_bad _ _ _ (by decide)) (by decide))
      · rw [if_neg h3] at ht
        by_cases h4 : m = 0
        · rw [if_pos (.inl h4)] at ht
          exact docBatNo ht rfl (docbatch_b A P n c w hp hn hl f a1 0 m a2 0 h1 h2 hf h4 3 (doneE_bad _ _ _ (by decide)) (by decide))
        · by_cases h5 : 18446744073709551616 ≤ f + m
          · rw [if_pos (.inr h5)] at ht
            exact docBatNo ht rfl (docbatch_c A P n c w hp hn hl f a1 0 m a2 0 h1 h2 hf (by omega) h4 h5 3 (doneE_bad _ _ _ (by decide)) (by decide))
          · rw [if_neg (by omega)] at ht
            exact docbatch_main A P n c w hp hn hl f a1 0 m a2 0 h1 h2 rfl hf (by omega) h4 (by omega) t ht
theorem docDecodeB_calls (A : Option Addr) (P : List UInt8) (n c : Nat) (w : World) (hp : RB w A c P) (hn : n = P.length) (hl : P.length ≤ 140737488355328) (t : Bat) (ht : decB P = t) :
    Calls Tryz.prog 61 #[.slice A n c] w fun r w' => ∃ A' c', r = .returned (.tuple #[.agg #[.int .u64 t.f, .slice A' t.l.length c'], .int .i64 t.e]) ∧ BatAt w w' A' t.l.length t.l :=
  (docDecodeBE_calls A P n c w hp hn hl t ht).mono fun _ _ ⟨A', c', h1, h2⟩ => ⟨A', c', h1, h2.at⟩
end Go.Proofs.YtpmnnnbkbcpgjaaGreatDoor
