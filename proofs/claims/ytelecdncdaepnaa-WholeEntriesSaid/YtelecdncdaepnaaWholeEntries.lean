/- The walk of notarytop.WholeEntries. -/
import Derived.Test.YtelecdncdaepnaaTopWords
import Derived.Test.YtelecdncdaepnaaTopTwin
import Derived.Test.YtelecdncdaepnaaTopBuild
import Derived.Test.YtelecdncdaepnaaEntryMore
import Derived.Test.YtelecdncdaepnaaTwinBatch
import Derived.Lib.SmallJoins
import Derived.Deep.CutRange
namespace Go.Proofs.Ytelecdncdaepnaa
open Go.RowKit
open WireMath (numS beN rawS blobS uvarS grpL uvarL wideL)

theorem run_appendE2 {P : Program} {t : TypeId} {w : World} (et : EnT P t 26) (ty : TypeId) (base : Nat) (v : Value) (n : Nat) (es : List EnX) (ho : EL w base v n es) (x : EnX) (ad : Addr) (h0 : w.cell? (ad.add 0) = some (.int .u8 x.1.k)) (h1 : w.cell? (ad.add 1) = some (.slice x.2.KA x.1.K.length x.2.kc)) (h2 : w.cell? (ad.add 2) = some (.slice x.2.VA x.1.V.length x.2.vc)) (hx : EnOk w x.1 x.2) (hf : FarE base v x) (hlen : (n + 1) * 56 ≤ 140737488355328) (hbase : base ≤ w.heap.size) :
    ∃ A' c' w', (Builtin.append_ #[t, t] ty #[v, .slice (some ad) 1 1]).run P w = .ok (.slice A' (n + 1) c') w' ∧ EL w' base (.slice A' (n + 1) c') (n + 1) (es ++ [x]) ∧ w.grownBy w' v.ownBlock ∧ ((Value.slice A' (n + 1) c').ownBlock = v.ownBlock ∨ (Value.slice A' (n + 1) c').ownBlock = some w.heap.size) := by
  obtain ⟨i, hi, hz, hsz, hb⟩ := info_parts et.info
  obtain ⟨v', w', hr, g1, g2, _, g4⟩ := Go.run_append_own_at (P := P) (w := w) base t ty 26 i _ 3 56 et.sl hi hz hsz hb rfl (by decide) v n (es.flatMap cellsE) ho.row ad 1 1 (cellsE x) rfl (fun j u hu => by
    match j, hu with
    | 0, hu => obtain rfl := Option.some.inj hu; exact h0
    | 1, hu => obtain rfl := Option.some.inj hu; exact h1
    | 2, hu => obtain rfl := Option.some.inj hu; exact h2
    | j + 3, hu => simp [cellsE] at hu) (fun u hu => by
    simp [cellsE] at hu
    rcases hu with rfl | rfl | rfl <;> rfl) (by unfold maxLen; omega) hlen hbase
  obtain ⟨A', c', rfl⟩ := own_formE g1
  have hall : ∀ y ∈ es ++ [x], EnOk w y.1 y.2 ∧ FarE base v y := fun y hy => by
    rcases List.mem_append.1 hy with hy | hy
    · exact ⟨ho.ok y hy, ho.far y hy⟩
    · obtain rfl := List.mem_singleton.1 hy
      exact ⟨hx, hf⟩
  have hstep : ∀ k, k < w.heap.size → v.ownBlock ≠ some k → (Value.slice A' (n + 1) c').ownBlock ≠ some k := fun k hk hv => by
    rcases g4 with e | e
    · rw [e]; exact hv
    · rw [e]; intro e2; have := Option.some.inj e2; omega
  refine ⟨A', c', w', hr, ⟨by simpa using g1, by rw [ho.len]; simp, fun y hy => ?_, fun y hy => ?_⟩, g2, g4⟩
  · obtain ⟨k1, k2⟩ := hall y hy
    exact ⟨k1.k, k1.K.keep fun a e hp => g2.block _ (k1.K.old.out a e hp) (fun e2 => (k2.K a e hp).2 e2.symm), k1.V.keep fun a e hp => g2.block _ (k1.V.old.out a e hp) (fun e2 => (k2.V a e hp).2 e2.symm)⟩
  · obtain ⟨k1, k2⟩ := hall y hy
    exact ⟨fun a e hp => ⟨(k2.K a e hp).1, hstep _ (k1.K.old.out a e hp) (k2.K a e hp).2⟩, fun a e hp => ⟨(k2.V a e hp).1, hstep _ (k1.V.old.out a e hp) (k2.V a e hp).2⟩⟩
theorem op_appendE2 {P : Program} {t : TypeId} {w : World} {o : Oper} {a : Act} {K : Act → World → Prop} {Q : Exit → Act → World → Prop} (et : EnT P t 26) (s x : Operand) (hop : o.op = .call { callee := .builtin .append, args := #[s, x], argTypes := #[t, t] })
    (base : Nat) (v : Value) (n : Nat) (es : List EnX) (hs : a.eval s = v) (ho : EL w base v n es) (y : EnX) (ad : Addr) (hx : a.eval x = .slice (some ad) 1 1) (h0 : w.cell? (ad.add 0) = some (.int .u8 y.1.k)) (h1 : w.cell? (ad.add 1) = some (.slice y.2.KA y.1.K.length y.2.kc)) (h2 : w.cell? (ad.add 2) = some (.slice y.2.VA y.1.V.length y.2.vc)) (hy : EnOk w y.1 y.2) (hf : FarE base v y) (hlen : (n + 1) * 56 ≤ 140737488355328) (hbase : base ≤ w.heap.size)
    (h : ∀ A' c' w', EL w' base (.slice A' (n + 1) c') (n + 1) (es ++ [y]) → w.grownBy w' v.ownBlock → ((Value.slice A' (n + 1) c').ownBlock = v.ownBlock ∨ (Value.slice A' (n + 1) c').ownBlock = some w.heap.size) → K (a.put o.dst (.slice A' (n + 1) c')) w') : o.wp P a w K Q := by
  obtain ⟨A', c', w', hr, g1, g2, g4⟩ := run_appendE2 et o.type base v n es ho y ad h0 h1 h2 hy hf hlen hbase
  unfold Oper.wp execOp
  simp only [hop, resolve, invoke, builtin, Sem.run_bind, Sem.run_pure, Result.andThen_ok, List.map_toArray, List.map_cons, List.map_nil, hs, hx, hr]
  exact h A' c' w' g1 g2 g4
theorem wp_appendE2 {P : Program} {t : TypeId} {w : World} {ops : Array Oper} {rest : List Oper} {o : Oper} {a : Act} {Q : Exit → Act → World → Prop} (et : EnT P t 26) (hg : o.guard = none) (s x : Operand) (hop : o.op = .call { callee := .builtin .append, args := #[s, x], argTypes := #[t, t] })
    (base : Nat) (v : Value) (n : Nat) (es : List EnX) (hs : a.eval s = v) (ho : EL w base v n es) (y : EnX) (ad : Addr) (hx : a.eval x = .slice (some ad) 1 1) (h0 : w.cell? (ad.add 0) = some (.int .u8 y.1.k)) (h1 : w.cell? (ad.add 1) = some (.slice y.2.KA y.1.K.length y.2.kc)) (h2 : w.cell? (ad.add 2) = some (.slice y.2.VA y.1.V.length y.2.vc)) (hy : EnOk w y.1 y.2) (hf : FarE base v y) (hlen : (n + 1) * 56 ≤ 140737488355328) (hbase : base ≤ w.heap.size)
    (h : ∀ A' c' w', EL w' base (.slice A' (n + 1) c') (n + 1) (es ++ [y]) → w.grownBy w' v.ownBlock → ((Value.slice A' (n + 1) c').ownBlock = v.ownBlock ∨ (Value.slice A' (n + 1) c').ownBlock = some w.heap.size) → wpList P ops Q rest (a.put o.dst (.slice A' (n + 1) c')) w') : wpList P ops Q (o :: rest) a w :=
  wpList_plain hg fun _ hK => op_appendE2 et s x hop base v n es hs ho y ad hx h0 h1 h2 hy hf hlen hbase fun A' c' w' h1 h2 h3 => hK _ _ (h A' c' w' h1 h2 h3)
theorem cell_newW {w w' : World} {a : Addr} {v : Value} (hb : Below w.heap.size w w') (h : w.cell? a = some v) : w'.cell? a = some v := (hb.cell (World.block_lt_of_cell? w _ h)).trans h
theorem encBF_valid (f : Nat) (l : List En) (h0 : l.length ≠ 0) (h1 : f + l.length < 18446744073709551616) (h2 : l.length ≤ 64) (h3 : ∀ x ∈ l, chkF x = 0) : encBF f l = (encBL f l, 0) := by
  unfold encBF
  rw [if_pos (errB_ok f l h0 h1 h2 h3)]
theorem decF_none (P : List UInt8) (f : Nat) (v : En) (h : decF P = (f, v)) (hf : f ≠ 0) : v = ⟨0, [], []⟩ := by
  unfold decF at h
  split at h
  · injection h with _ h2; exact h2.symm
  · split at h
    · injection h with _ h2; exact h2.symm
    · injection h with h1 _; exact absurd h1.symm hf
theorem decB_nil : ¬ (decB []).e = 0 := by decide
theorem rootFit (k : Nat) (hk0 : 1 ≤ k) (hk : k ≤ 32) (r : Rt) (hr : RtOk r) : RtOk ⟨r.s, padL k r.l, padL k r.m⟩ ∧ ∃ z, encR k ⟨r.s, padL k r.l, padL k r.m⟩ = (z, 0) := by
  refine ⟨⟨hr.s, padL_length k _ hk hr.l, padL_length k _ hk hr.m⟩, ?_⟩
  have hp : ∀ d : List UInt8, d.length = 32 → padL k (padL k d) = padL k d := by
    intro d hd
    unfold padL
    rw [List.take_append_of_le_length (by rw [List.length_take]; omega), List.take_take, Nat.min_self]
  unfold encR
  rw [if_neg (by unfold wideF; rw [if_neg (by omega)]; simp), if_pos ⟨⟨by omega, by omega, by rw [Int.toNat_natCast]; exact hp _ hr.l⟩, ⟨by omega, by omega, by rw [Int.toNat_natCast]; exact hp _ hr.m⟩⟩]
  exact ⟨_, rfl⟩
set_option maxHeartbeats 8000000 in
set_option maxRecDepth 100000 in
theorem wholeEntries_calls (X : UInt8) (V : Int) (hV0 : 0 ≤ V) (hV1 : V ≤ 18446744073709551615) (A : Option Addr) (es : List EnX) (n c : Nat) (r : Rt) (hr : RtOk r) (AP : Option Addr) (P : List UInt8) (m cp : Nat) (w : World) (h : Ents w A es) (hn : n = es.length) (hl : n * 56 ≤ 140737488351232) (hp : RB w AP cp P) (hm : m = P.length) (hpl : P.length ≤ 140737488351232) :
    Calls Try.prog 12 #[.int .u8 (uB X), .agg #[.int .u64 V, .slice A n c], .agg (rtL r).toArray, .slice AP m cp] w fun e w' => e = .returned (.bool true) ∧ Below w.heap.size w w' := by
  subst hm
  obtain ⟨f, rfl⟩ := Int.eq_ofNat_of_zero_le hV0
  obtain ⟨L, hL⟩ : ∃ L, L = rtL r := ⟨_, rfl⟩
  rw [← hL]
  have hc : L.length = 65 := by rw [hL]; exact rtL_length r hr
  have hl6 : n ≤ 9223372036854775807 := by omega
  obtain ⟨wa, hwa⟩ : ∃ wa : World, wa = (w.alloc (.cells #[.int .u64 f, .slice A n c] 34)).alloc (.cells L.toArray 63) := ⟨_, rfl⟩
  have hwz : wa.heap.size = w.heap.size + 1 + 1 := by rw [hwa]; exact asz2 _ _ _
  have HZ := Lib.hid hwz
  have HB := Lib.hid (show Below w.heap.size w wa by rw [hwa]; exact alloc2 _ _ _)
  have HT := Lib.hid (show Duo wa w.heap.size (.int .u64 f) (.slice A n c) by rw [hwa]; exact (Duo.fresh w w.heap.size rfl (.int .u64 f) (.slice A n c) 34).new (below_alloc1 (Below.refl _ _) (Nat.le_refl _) (.cells L.toArray 63)))
  have HR := Lib.hid (show RtAt wa (w.heap.size + 1) 63 r by rw [hwa]; exact RtAt.fresh (w.alloc (.cells #[.int .u64 f, .slice A n c] 34)) (w.heap.size + 1) (szA _ _).symm 63 r hr L.toArray (by rw [hL]))
  have kc1 := Go.Joins.run_convert_bytes_const_at (P := Try.prog) ((w.alloc (.cells #[.int .u64 f, .slice A n c] 34)).alloc (.cells L.toArray 63)) 24 5 #[.int .u8 107] 1 1 (w.heap.size + 1 + 1) (asz2 _ _ _).symm Try.underlying24 Try.underlying5
  have kc2 := Go.Joins.run_convert_bytes_const_at (P := Try.prog) (((w.alloc (.cells #[.int .u64 f, .slice A n c] 34)).alloc (.cells L.toArray 63)).alloc (.cells #[.int .u8 107] 5 (1, 2))) 24 5 #[.int .u8 118] 1 1 (w.heap.size + 1 + 1 + 1) (asz3 _ _ _ _).symm Try.underlying24 Try.underlying5
  obtain ⟨wb, hwb⟩ : ∃ wb : World, wb = (wa.alloc (.cells #[.int .u8 107] 5 (1, 2))).alloc (.cells #[.int .u8 118] 5 (1, 2)) := ⟨_, rfl⟩
  have HK := Lib.hid (show RB wb (some ⟨w.heap.size + 1 + 1, 0, none⟩) 1 [107] by rw [hwb, ← hwz]; exact (RB.lit wa 5 (1, 2) #[.int .u8 107] [107] rfl 1 rfl (by decide)).alloc _)
  have HV := Lib.hid (show RB wb (some ⟨w.heap.size + 1 + 1 + 1, 0, none⟩) 1 [118] by
    have := RB.lit (wa.alloc (.cells #[.int .u8 107] 5 (1, 2))) 5 (1, 2) #[.int .u8 118] [118] rfl 1 rfl (by decide)
    rw [asz, hwz] at this
    rw [hwb]; exact this)
  have HBB := Lib.hid (show Below wa.heap.size wa wb by rw [hwb]; exact alloc2 _ _ _)
  have HWB := Lib.hid (show wb = (((w.alloc (.cells #[.int .u64 f, .slice A n c] 34)).alloc (.cells L.toArray 63)).alloc (.cells #[.int .u8 107] 5 (1, 2))).alloc (.cells #[.int .u8 118] 5 (1, 2)) by rw [hwb, hwa])
  have HN := Lib.hid hn
  have HOK := Lib.hid hr
  clear hL hwa hwb hwz hr hl hn
  go_enter Try.func12, Try.ntmps12
  go_wp2_with (first
    | (go_at_call 22; rw [← HWB.out]; go_loud (with_reducible refine (enc5 _ _ 1 1 _ HK.out HV.out).mono ?_); rintro r1 w1 ⟨A1, c1, rfl, hn1⟩; have B1 := Lib.hid (below_then HBB.out hn1.below)))
  go_loopw [11, 12] (fun v iv wr => ∃ (j : Nat) (A2 : Option Addr) (c2 : Nat) (ds : List EnX), j ≤ n ∧ j ≤ 64 ∧ iv = .int .i64 j ∧ v = .slice A2 j c2 ∧ EL wr 0 (.slice A2 j c2) j ds ∧ ensOf ds = (ensOf (es.take j)).map fitF ∧ Hid (∀ k, (Value.slice A2 j c2).ownBlock = some k → wa.heap.size ≤ k) ∧ Below wa.heap.size wa wr) (fun _ iv _ => 64 - (intOf iv).toNat)
  case atStart => exact ⟨0, none, 0, [], Nat.zero_le _, Nat.zero_le _, rfl, rfl, EL.nil _ _, by simp [ensOf], Lib.hid (fun k e => by simp [Value.ownBlock] at e), B1.out⟩
  case round =>
    obtain ⟨j, A2, c2, ds, hj, hj64, rfl, rfl, HEL, hds, HOW, BJ⟩ := hrel
    have TJ := HT.out.new BJ
    have x1 := TJ.c1
    have HDS := Lib.hid hds
    clear hds
    by_cases hlt : j < n ∧ j < 64
    · obtain ⟨hlt1, hlt2⟩ := hlt
      obtain ⟨a, o, x, rfl, ho, hmem, hok, k0, k1, k2⟩ := (h.new (below_then HB.out BJ)).at_ j (by rw [← HN.out]; exact hlt1)
      have hokw := Lib.hid (h.ok _ hmem)
      have HD2 := Lib.hid (show ensOf (ds ++ [(fitF o, fitA o x)]) = (ensOf (es.take (j + 1))).map fitF by
        rw [ensOf_take es j o x ho, List.map_append, ← HDS.out]; simp [ensOf])
      have HFAR := Lib.hid (show FarE 0 (.slice A2 j c2) (fitF o, fitA o x) from ⟨fun ad e9 hp9 => ⟨Nat.zero_le _, fun e8 => by
          have h1 := HOW.out _ e8
          have h2 : ad.block < w.heap.size := hokw.out.K.old.out ad (by unfold fitA at e9; split at e9 <;> exact e9) (show 0 < o.K.length by unfold fitF at hp9; split at hp9 <;> (simp only [List.length_take] at hp9; omega))
          have := HZ.out; omega⟩, fun ad e9 hp9 => ⟨Nat.zero_le _, fun e8 => by
          have h1 := HOW.out _ e8
          unfold fitA at e9
          split at e9
          · exact absurd e9 (by simp)
          · have h2 : ad.block < w.heap.size := hokw.out.V.old.out ad e9 (show 0 < o.V.length by unfold fitF at hp9; split at hp9 <;> (simp only [List.length_take, List.length_nil] at hp9; omega))
            have := HZ.out; omega⟩⟩)
      clear ho
      go_wp2_with (first
        | (go_at_call 38; go_loud (with_reducible refine (topfits_calls o x _ _ rfl rfl _ hok).mono ?_); rintro r5 w5 ⟨rfl, hb5⟩; have B5 := Lib.hid (below_then BJ hb5); have L5 := Lib.hid (HEL.new hb5); have E5 := Lib.hid (fit_ok w5 o x (hok.new hb5)); have B6 := Lib.hid (belowA B5.out (.cells #[.int .u8 (fitF o).k, .slice (fitA o x).KA (fitF o).K.length (fitA o x).kc, .slice (fitA o x).VA (fitF o).V.length (fitA o x).vc] 26)))
        | (refine wp_op_is (.call { callee := .builtin .append, args := #[.tmp 60, .tmp 67], argTypes := #[22, 22] }) rfl ?_; refine wp_appendE2 ent rfl (.tmp 60) (.tmp 67) rfl 0 (.slice A2 j c2) j ds rfl (L5.out.new (below_alloc1 (Below.refl _ _) (Nat.le_refl _) (.cells #[.int .u8 (fitF o).k, .slice (fitA o x).KA (fitF o).K.length (fitA o x).kc, .slice (fitA o x).VA (fitF o).V.length (fitA o x).vc] 26))) (fitF o, fitA o x) ⟨w5.heap.size, 0, Option.none⟩ rfl (tri_at w5 _ _ _ _).1 (tri_at w5 _ _ _ _).2.1 (tri_at w5 _ _ _ _).2.2 (E5.out.new (below_alloc1 (Below.refl _ _) (Nat.le_refl _) (.cells #[.int .u8 (fitF o).k, .slice (fitA o x).KA (fitF o).K.length (fitA o x).kc, .slice (fitA o x).VA (fitF o).V.length (fitA o x).vc] 26))) HFAR.out (by omega) (Nat.zero_le _) fun A' c' w7 hl7 hg7 ho7 => ?_; have HO7 := Lib.hid ho7; have B7 := Lib.hid (B6.out.grown hg7 B6.out.size (fun k e9 => HOW.out k e9))))
      go_roundw
      case rel => exact ⟨j + 1, A', c', ds ++ [(fitF o, fitA o x)], by omega, by omega, by go_num, rfl, hl7, HD2.out, Lib.hid (fun k e9 => by
        rcases HO7.out with h9 | h9
        · rw [h9] at e9; exact HOW.out k e9
        · rw [h9] at e9; have := Option.some.inj e9; have := B6.out.size; omega), B7.out⟩
      case measure => simp [intOf]; omega
    · have hcases : (∃ (_ : j = 0) (_ : ¬ j < n), True) ∨ (∃ (_ : 1 ≤ j) (_ : ¬ j < n), True) ∨ (∃ (_ : j = 64) (_ : j < n), True) := by
        by_cases h1 : j < n
        · exact .inr (.inr ⟨by omega, h1, trivial⟩)
        · by_cases h2 : j = 0
          · exact .inl ⟨h2, h1, trivial⟩
          · exact .inr (.inl ⟨by omega, h1, trivial⟩)
      obtain ⟨F, hF⟩ : ∃ F : Nat, (f : Int) % 4611686018427387904 = (F : Int) := ⟨f % 4611686018427387904, by omega⟩
      have hF62 : F < 4611686018427387904 := by omega
      have hall : ∀ x ∈ ensOf ds, chkF x = 0 := by
        rw [HDS.out]
        intro x hx
        obtain ⟨y, _, rfl⟩ := List.mem_map.1 hx
        exact fitF_chk y
      have hdl : ds.length = j := HEL.len.symm
      have hgl : (ensOf ds).length = j := by unfold ensOf; rw [List.length_map]; exact hdl
      have x0 := TJ.c0
      have hzj := TJ.lt
      have HTJ := Lib.hid TJ
      have GRe := Lib.hid HEL.reads
      clear hlt HEL HDS TJ
      obtain ⟨Ag, gs, ng, cg, wg, hstep⟩ : ∃ (Ag : Option Addr) (gs : List EnX) (ng cg : Nat) (wg : World), Hid (Ents wg Ag gs ∧ ng = gs.length ∧ 1 ≤ ng ∧ ng ≤ 64 ∧ (∀ x ∈ ensOf gs, chkF x = 0) ∧ Below wa.heap.size wa wg ∧ ((1 ≤ j ∧ wg = wr ∧ Ag = A2 ∧ ng = j ∧ cg = c2) ∨ (j = 0 ∧ wg = wr.alloc (.cells #[.int .u8 2, .slice none 0 0, .slice none 0 0] 26) ∧ Ag = some ⟨wr.heap.size, 0, none⟩ ∧ ng = 1 ∧ cg = 1))) := by
        by_cases h0 : j = 0
        · exact ⟨some ⟨wr.heap.size, 0, none⟩, [(⟨2, [], []⟩, ⟨none, 0, none, 0⟩)], 1, 1, wr.alloc (.cells #[.int .u8 2, .slice none 0 0, .slice none 0 0] 26), Lib.hid ⟨one5 wr _ wr.heap.size rfl, rfl, Nat.le_refl _, by omega, by decide, belowA BJ _, .inr ⟨h0, rfl, rfl, rfl, rfl⟩⟩⟩
        · exact ⟨A2, ds, j, c2, wr, Lib.hid ⟨GRe.out, hdl.symm, by omega, by omega, hall, BJ, .inl ⟨by omega, rfl, rfl, rfl, rfl⟩⟩⟩
      obtain ⟨GE, GN, G1, G64, GCK, BG, hwhich⟩ := hstep.out
      have HGE := Lib.hid GE
      have HGN := Lib.hid GN
      have HBG := Lib.hid BG
      have hgn : (ensOf gs).length = ng := by unfold ensOf; rw [List.length_map]; exact GN.symm
      obtain ⟨q, hq⟩ : ∃ q, encBF F (ensOf gs) = (q, 0) := ⟨_, encBF_valid F (ensOf gs) (by omega) (by omega) (by omega) GCK⟩
      have HQ := Lib.hid hq
      have HDB := Lib.hid (decB_laid F (ensOf gs) q hq)
      have hql : q.length ≤ 22000 := by have := encBF_len2 F (ensOf gs); rw [hq] at this; exact this
      have HCK := Lib.hid GCK
      have hF64 : F ≤ 18446744073709551615 := by omega
      clear GE GN BG hq hstep hall hdl hgl GCK GRe hgn
      have HTG := Lib.hid (HT.out.new HBG.out)
      have xg0 := HTG.out.c0
      have xg1 := HTG.out.c1
      have hzg := HTG.out.lt
      have DG := Lib.hid (Duo.fresh wg wg.heap.size rfl (.int .u64 F) (.slice Ag ng cg) 34)
      have nbG := Lib.hid (below_alloc1 (Below.refl wg.heap.size wg) (Nat.le_refl _) (.cells #[.int .u64 F, .slice Ag ng cg] 34))
      have hgl2 : (((ensOf gs).length : Int) != (ng : Int)) = false := by
        have : (ensOf gs).length = ng := by unfold ensOf; rw [List.length_map]; exact HGN.out.symm
        rw [this]; simp
      have hlt11 : ¬ ((ng : Int) = 0) := by omega
      rcases hcases with ⟨h0, hjn, _⟩ | ⟨h1, hjn, _⟩ | ⟨h64, hjn, _⟩
      case' inl =>
        subst h0
        obtain ⟨rfl, rfl, rfl, rfl⟩ : wg = wr.alloc (.cells #[.int .u8 2, .slice none 0 0, .slice none 0 0] 26) ∧ Ag = some ⟨wr.heap.size, 0, none⟩ ∧ ng = 1 ∧ cg = 1 := by
          rcases hwhich with ⟨h9, _⟩ | ⟨_, h2, h3, h4, h5⟩
          · omega
          · exact ⟨h2, h3, h4, h5⟩
        have hgl3 : (((ensOf gs).length : Int) != 1) = false := hgl2
        simp only [szA] at DG hzg
        obtain ⟨wo, hwo⟩ : ∃ wo : World, wo = wr := ⟨_, rfl⟩
        subst hwo
      case' inr.inl =>
        obtain ⟨rfl, rfl, rfl, rfl⟩ : wg = wr ∧ Ag = A2 ∧ ng = j ∧ cg = c2 := by
          rcases hwhich with ⟨_, h2, h3, h4, h5⟩ | ⟨h9, _⟩
          · exact ⟨h2, h3, h4, h5⟩
          · omega
      case' inr.inr =>
        subst h64
        obtain ⟨rfl, rfl, rfl, rfl⟩ : wg = wr ∧ Ag = A2 ∧ ng = 64 ∧ cg = c2 := by
          rcases hwhich with ⟨_, h2, h3, h4, h5⟩ | ⟨h9, _⟩
          · exact ⟨h2, h3, h4, h5⟩
          · omega
        have hgl3 : (((ensOf gs).length : Int) != 64) = false := hgl2
      all_goals
        clear hwhich
        go_wp2_with (first
          | (go_at_call 16; go_loud (with_reducible refine (encB_calls F _ rfl hF64 _ _ _ gs _ (HGE.out.new nbG.out) HGN.out (by omega) q 0 HQ.out).mono ?_); rintro r9 w9 ⟨A9, c9, rfl, hn9⟩; have B9 := Lib.hid (below_then (below_then HBG.out nbG.out) hn9.below); have D9 := DG.out.new hn9.below; have E9 := Lib.hid ((HGE.out.new nbG.out).new hn9.below))
          | (go_at_call 21; have tk9 := hn9.own.rb; go_loud (with_reducible refine (decBN2 A9 q _ c9 _ tk9 rfl (by omega) 0 F (ensOf gs) HDB.out).mono ?_); rintro r10 w10 ⟨A10, c10, rfl, hn10⟩; obtain ⟨⟨es10, he10, hl10, ho10⟩, hb10⟩ := hn10; have HE10 := Lib.hid he10; have HL10 := Lib.hid hl10; have HO10 := Lib.hid ho10; clear he10 hl10 ho10; have B10 := Lib.hid (below_then B9.out hb10); have D10 := D9.new hb10; have E10 := Lib.hid (E9.out.new hb10); have d0 := D10.c0; have d1 := D10.c1; have hz10 := D10.lt; have QR := Lib.hid (tk9.new hb10)))
        obtain ⟨wx, hwx⟩ : ∃ wx : World, wx = w10.alloc (.cells #[.int .u64 F, .slice A10 (ensOf gs).length c10] 34) := ⟨_, rfl⟩
        have HUX := Lib.hid (show Duo wx w10.heap.size (.int .u64 F) (.slice A10 (ensOf gs).length c10) by rw [hwx]; exact Duo.fresh w10 w10.heap.size rfl _ _ _)
        have nbX := Lib.hid (show Below w10.heap.size w10 wx by rw [hwx]; exact below_alloc1 (Below.refl _ _) (Nat.le_refl _) _)
        have HGX := Lib.hid (E10.out.new nbX.out)
        have HEX := Lib.hid (HO10.out.new nbX.out)
        have BX := Lib.hid (below_then B10.out nbX.out)
        have QX := Lib.hid (QR.out.new nbX.out)
        have HWX := Lib.hid hwx
        have HGL := Lib.hid (show (ensOf gs).length = gs.length by unfold ensOf; rw [List.length_map])
        clear hwx d0 d1 D9 D10 DG x0 x1 xg0 xg1
        first | (generalize (⟨wo.heap.size, 0, none⟩ : Addr) = aG at *) | skip
        go_loopw [18] (fun iv wq => ∃ i : Nat, i ≤ gs.length ∧ iv = .int .i64 i ∧ Below wx.heap.size wx wq) (fun iv _ => gs.length - (intOf iv).toNat)
        case atStart => exact ⟨0, Nat.zero_le _, rfl, by rw [HWX.out]; exact Below.refl _ _⟩
        case round =>
          obtain ⟨i, hi, rfl, BI⟩ := hrel
          by_cases hlt : i < gs.length
          · obtain ⟨a1, o, y1, ea1, ho1, hm1, hok1, k0, k1, k2⟩ := (HGX.out.new BI).at_ i hlt
            have hlt10 : i < es10.length := by rw [← HL10.out, HGL.out]; exact hlt
            obtain ⟨a2, o2, y2, ea2, ho2, hm2, hok2, p0, p1, p2⟩ := (HEX.out.new BI).at_ i hlt10
            obtain rfl : o2 = o := by
              have e1 : (ensOf es10)[i]? = some o2 := by unfold ensOf; rw [List.getElem?_map, ho2]; rfl
              have e2 : (ensOf gs)[i]? = some o := by unfold ensOf; rw [List.getElem?_map, ho1]; rfl
              rw [HE10.out, e2] at e1
              exact (Option.some.inj e1).symm
            have HC0 := Lib.hid (show ((chkF o2 : Nat) : Int) = 0 by rw [HCK.out o2 (by unfold ensOf; exact List.mem_map.2 ⟨(o2, y1), hm1, rfl⟩)]; rfl)
            have UI := HUX.out.new BI
            have u1 := UI.c1
            have hlt2 := Nat.lt_of_lt_of_eq hlt HGN.out.symm
            have hi1 : (i : Int) < ((ensOf gs).length : Int) := by have := HGL.out; omega
            have hi0 : (0 : Int) ≤ (i : Int) := by omega
            first | (obtain rfl := ea1) | (obtain rfl := (Option.some.inj ea1).symm)
            subst ea2
            have HLT := Lib.hid hlt
            clear ho1 ho2 hm1 hm2 hlt10 hlt
            go_wp2
            go_region_held3 (fun w' => w'.cell? ⟨w10.heap.size, 1, none⟩ = some (.slice (some a2) (ensOf gs).length c10) ∧ w'.cell? (a1.add (i * 3)) = some (.int .u8 o2.k) ∧ w'.cell? ⟨(a1.add (i * 3)).block, (a1.add (i * 3)).off + 1, none⟩ = some (.slice y1.KA o2.K.length y1.kc) ∧ w'.cell? ⟨(a1.add (i * 3)).block, (a1.add (i * 3)).off + 2, none⟩ = some (.slice y1.VA o2.V.length y1.vc) ∧ w'.cell? (a2.add (i * 3)) = some (.int .u8 o2.k) ∧ w'.cell? ⟨(a2.add (i * 3)).block, (a2.add (i * 3)).off + 1, none⟩ = some (.slice y2.KA o2.K.length y2.kc) ∧ w'.cell? ⟨(a2.add (i * 3)).block, (a2.add (i * 3)).off + 2, none⟩ = some (.slice y2.VA o2.V.length y2.vc)) (go_keep) (first
              | (go_at_call 39; (with_reducible refine (topsameE_calls o2 y2 y1 _ _ _ _ rfl rfl rfl rfl _ (hok2.new (below_drew _ _)) (hok1.new (below_drew _ _))).mono ?_); rintro r20 wc ⟨rfl, hbc⟩; have nC := (below_drew _ _).trans hbc; have v0 := cell_newW nC u1; have v1 := cell_newW nC k0; have v2 := cell_newW nC k1; have v3 := cell_newW nC k2; have v4 := cell_newW nC p0; have v5 := cell_newW nC p1; have v6 := cell_newW nC p2; have OKC := Lib.hid (hok1.new nC); have BC := Lib.hid (below_then BI.drew hbc))
              | (go_at_call 37; (with_reducible refine (checkN o2 y1.KA y1.VA _ _ y1.kc y1.vc _ rfl rfl 0 HC0.out).mono ?_); rintro r21 wd ⟨rfl, hbd⟩; have v0 := cell_newW hbd v0; have v1 := cell_newW hbd v1; have v2 := cell_newW hbd v2; have v3 := cell_newW hbd v3; have v4 := cell_newW hbd v4; have v5 := cell_newW hbd v5; have v6 := cell_newW hbd v6; have BD := Lib.hid (below_then BC.out hbd)))
            all_goals
              go_wp2
              go_roundw
              case rel => exact ⟨i + 1, by have := HLT.out; omega, by go_num, BD.out⟩
              case measure => have := HLT.out; simp [intOf]; omega
          · obtain rfl : i = gs.length := by omega
            have QI := QX.out.new BI
            have hq0 : q ≠ [] := by
              rintro rfl
              exact decB_nil (congrArg (·.e) HDB.out)
            obtain ⟨K, hK⟩ : ∃ K, q.length = K + 1 := ⟨q.length - 1, by cases q with | nil => exact absurd rfl hq0 | cons _ _ => simp⟩
            obtain ⟨e3, f3, l3, ht3⟩ : ∃ te tf tl, decB (q.take K) = ⟨te, tf, tl⟩ := ⟨_, _, _, rfl⟩
            obtain ⟨e4, f4, l4, ht4⟩ : ∃ te tf tl, decB (q ++ [0]) = ⟨te, tf, tl⟩ := ⟨_, _, _, rfl⟩
            have he3 : ((e3 : Int) == 0) = false := by rw [beq_eq_false_iff_ne]; have := decB_cut F (ensOf gs) q HQ.out K (by omega); rw [ht3] at this; simp only at this; omega
            have he4 : ((e4 : Int) == 0) = false := by rw [beq_eq_false_iff_ne]; have := decB_more F (ensOf gs) q HQ.out 0; rw [ht4] at this; simp only at this; omega
            have HT3 := Lib.hid ht3
            have HT4 := Lib.hid ht4
            have hk1 : (q.length : Int) - 1 = (K : Int) := by omega
            have hKI := Lib.hid (show K = (q.take K).length by rw [List.length_take]; omega)
            have hcut := fun w' : World => run_cut_h w' A9 q.length c9 K K rfl (by have := QI.len; omega)
            have HK9 := Lib.hid hK
            have HL7 := Lib.hid (show (q ++ [0]).length = q.length + 1 by simp)
            have hw1 : (X.toNat : Int) ≤ 255 := by have := X.toNat_lt; omega
            obtain ⟨k, hk⟩ : ∃ k, k = 1 + X.toNat % 32 := ⟨_, rfl⟩
            have HKX := Lib.hid hk
            have hk0 : 1 ≤ k := by omega
            have hk32 : k ≤ 32 := by omega
            have hlt2 := Nat.not_lt.2 (Nat.le_of_eq HGN.out)
            clear hk hw1 ht3 ht4 hK hq0 hlt hi
            have RX := Lib.hid (fun w' (hb : Below wx.heap.size wx w') => HR.out.keep (below_then BX.out hb) (by rw [HZ.out]; omega))
            go_wp2_with (first
              | (go_at_call 21; go_loud (with_reducible refine (decBN2 A9 (q.take K) _ c9 _ (QI.take K) hKI.out (by rw [← hKI.out]; omega) e3 f3 l3 HT3.out).mono ?_); rintro r30 w30 ⟨A30, c30, rfl, hn30⟩; have B30 := Lib.hid (belowA (below_then BI hn30.2) (.cells #[.int .u64 f3, .slice A30 l3.length c30] 34)))
              | (go_at_call 40; go_loud (with_reducible refine (toptwin_calls A9 q c9 _ (QX.out.new B30.out) (by omega)).mono ?_); rintro r31 w31 ⟨A31, c31, rfl, hn31⟩; have B31 := Lib.hid (below_then B30.out hn31.below); have O31 := Lib.hid (hn31.own.alloc (.cells #[.int .u8 0] 5)); have X31 := Lib.hid (RB.oneAt w31 5 0 0 rfl w31.heap.size rfl); have L31 := Lib.hid O31.out.out.lt; have S31 := Lib.hid (show (w30.alloc (.cells #[.int .u64 f3, .slice A30 l3.length c30] 34)).heap.size ≤ (w31.alloc (.cells #[.int .u8 0] 5)).heap.size from Nat.le_trans hn31.below.size (by rw [szA]; omega)))
              | (refine wp_op_is (.call { callee := .builtin .append, args := #[.tmp 146, .tmp 147], argTypes := #[24, 24] }) rfl ?_; refine wp_appendB bt rfl (.tmp 146) (.tmp 147) rfl _ (.slice A31 q.length c31) q rfl O31.out (some ⟨w31.heap.size, 0, Option.none⟩) [0] 1 1 rfl rfl X31.out (by simp; omega) S31.out fun v7 w7 ho7 hg7 _ => ?_; have B7 := Lib.hid ((belowA B31.out (.cells #[.int .u8 0] 5)).grown hg7 (belowA B31.out (.cells #[.int .u8 0] 5)).size (fun k e9 => Nat.le_trans B30.out.size (L31.out k e9).1)); obtain ⟨A7, c7, rfl, hr7⟩ := ho7.form; have R7 := Lib.hid hr7)
              | (go_at_call 21; go_loud (with_reducible refine (decBN2 A7 (q ++ [0]) _ c7 _ R7.out (by first | rfl | exact HL7.out.symm) (by rw [HL7.out]; omega) e4 f4 l4 HT4.out).mono ?_); rintro r32 w32 ⟨A32, c32, rfl, hn32⟩; have B32 := Lib.hid (belowA (below_then B7.out hn32.2) (.cells #[.int .u64 f4, .slice A32 l4.length c32] 34)))
              | (go_at_call 41; go_loud (with_reducible refine (topwidthN X k HKX.out _).mono ?_); rintro r33 w33 ⟨rfl, rfl⟩))
            obtain ⟨W, hW⟩ : ∃ W, W = w32.alloc (.cells #[.int .u64 f4, .slice A32 l4.length c32] 34) := ⟨_, rfl⟩
            rw [← hW] at B32 ⊢
            clear hW
            have HRO := Lib.hid (rootFit k hk0 hk32 r HOK.out)
            go_cut [24] from 154 to 164 (fun s24 wy => ∃ g : Nat, s24 = .pointer (some ⟨g, 0, none⟩) ∧ RtAt wy g 63 ⟨r.s, padL k r.l, padL k r.m⟩ ∧ Below wx.heap.size wx wy)
            case first =>
              have hU := Try.underlying61
              have hIl : (Try.prog.info? 61).map (·.size) = some (encB r.l).length := by rw [encB_length, HOK.out.l]; kernel_rfl
              have hIm : (Try.prog.info? 61).map (·.size) = some (encB r.m).length := by rw [encB_length, HOK.out.m]; kernel_rfl
              have hll := padL_length k r.l hk32 HOK.out.l
              have hlm := padL_length k r.m hk32 HOK.out.m
              refine wp_region_held_drew (S := fun w' => RtAt w' (w.heap.size + 1) 63 r) (by kernel_rfl) (RX.out _ B32.out).drew (fun hHeld => ?_)
              refine wpAnyH_take (i := 0) (v := .pointer (some ⟨w.heap.size + 1, 0, none⟩)) rfl (by kernel_rfl) (by kernel_rfl) (by kernel_rfl) (fun _ _ _ h => h) (Or.inl ⟨by rfl, fun w hS => by go_simp⟩) (by assumption) ?_
              try simp only [Act.put, List.getElem_toArray, List.getElem_cons_succ, List.getElem_cons_zero, List.setIfInBounds_toArray, List.set_cons_zero, List.set_cons_succ]
              refine wpAnyH_take (i := 1) (v := .int .u64 r.s) rfl (by kernel_rfl) (by kernel_rfl) (by kernel_rfl) (fun _ _ _ h => h) (Or.inl ⟨by rfl, fun w hS => by have := RtAt.size hS; go_simp⟩) (by assumption) ?_
              try simp only [Act.put, List.getElem_toArray, List.getElem_cons_succ, List.getElem_cons_zero, List.setIfInBounds_toArray, List.set_cons_zero, List.set_cons_succ]
              refine wpAnyH_take (i := 2) (v := .int .i64 k) rfl (by kernel_rfl) (by kernel_rfl) (by kernel_rfl) (fun _ _ _ h => h) (Or.inl ⟨by rfl, fun w hS => by go_simp⟩) (by assumption) ?_
              try simp only [Act.put, List.getElem_toArray, List.getElem_cons_succ, List.getElem_cons_zero, List.setIfInBounds_toArray, List.set_cons_zero, List.set_cons_succ]
              refine wpAnyH_take (i := 3) (v := .pointer (some ⟨w.heap.size + 1, 1, none⟩)) rfl (by kernel_rfl) (by kernel_rfl) (by kernel_rfl) (fun _ _ _ h => h) (Or.inl ⟨by rfl, fun w hS => by go_simp⟩) (by assumption) ?_
              try simp only [Act.put, List.getElem_toArray, List.getElem_cons_succ, List.getElem_cons_zero, List.setIfInBounds_toArray, List.set_cons_zero, List.set_cons_succ]
              refine wpAnyH_take (i := 4) (v := .agg (encB r.l).toArray) rfl (by kernel_rfl) (by kernel_rfl) (by kernel_rfl) (fun _ _ _ h => h) (yieldsIf_load_mid (by rfl) _ _ rfl (w.heap.size + 1) 1 rfl _ _ (fun w' h => RtAt.logR h) hU rfl hIl) (by assumption) ?_
              try simp only [Act.put, List.getElem_toArray, List.getElem_cons_succ, List.getElem_cons_zero, List.setIfInBounds_toArray, List.set_cons_zero, List.set_cons_succ]
              refine wpAnyH_take (i := 6) (v := .int .i64 k) rfl (by kernel_rfl) (by kernel_rfl) (by kernel_rfl) (fun _ _ _ h => h) (Or.inl ⟨by rfl, fun w hS => by go_simp⟩) (by assumption) ?_
              try simp only [Act.put, List.getElem_toArray, List.getElem_cons_succ, List.getElem_cons_zero, List.setIfInBounds_toArray, List.set_cons_zero, List.set_cons_succ]
              refine wpAnyH_take (i := 7) (v := .pointer (some ⟨w.heap.size + 1, 33, none⟩)) rfl (by kernel_rfl) (by kernel_rfl) (by kernel_rfl) (fun _ _ _ h => h) (Or.inl ⟨by rfl, fun w hS => by go_simp⟩) (by assumption) ?_
              try simp only [Act.put, List.getElem_toArray, List.getElem_cons_succ, List.getElem_cons_zero, List.setIfInBounds_toArray, List.set_cons_zero, List.set_cons_succ]
              refine wpAnyH_take (i := 8) (v := .agg (encB r.m).toArray) rfl (by kernel_rfl) (by kernel_rfl) (by kernel_rfl) (fun _ _ _ h => h) (yieldsIf_load_mid (by rfl) _ _ rfl (w.heap.size + 1) 33 rfl _ _ (fun w' h => RtAt.mapR h) hU rfl hIm) (by assumption) ?_
              try simp only [Act.put, List.getElem_toArray, List.getElem_cons_succ, List.getElem_cons_zero, List.setIfInBounds_toArray, List.set_cons_zero, List.set_cons_succ]
              clear hU hIl hIm
              have B0 := B32.out.drew
              refine wpAnyH_ready (rs := [5, 11]) (by kernel_rfl) (by simp) ?_
              refine AllReadyH.cons rfl (fun K hK => ?_) (AllReadyH.cons rfl (fun K hK => ?_) AllReadyH.nil)
              · skip
                go_simp
                (go_at_call 42; (with_reducible refine (topcutR k hk32 r.l HOK.out.l _).mono ?_); rintro rawa1 wa1 ⟨rfl, hb_wa1⟩)
                dsimp only
                have B_wa1 := below_then B0 hb_wa1
                refine hK.out _ _ (hHeld.new hb_wa1) (fun H_wa1 => ?_)
                clear hK K
                try simp only [Act.put, List.getElem_toArray, List.getElem_cons_succ, List.getElem_cons_zero, List.setIfInBounds_toArray, List.set_cons_zero, List.set_cons_succ]
                refine wpAnyH_ready (rs := [9, 11]) (by kernel_rfl) (by simp) ?_
                refine AllReadyH.cons rfl (fun K hK => ?_) (AllReadyH.cons rfl (fun K hK => ?_) AllReadyH.nil)
                · skip
                  go_simp
                  (go_at_call 42; (with_reducible refine (topcutR k hk32 r.m HOK.out.m _).mono ?_); rintro rawa2 wa2 ⟨rfl, hb_wa2⟩)
                  dsimp only
                  have B_wa2 := below_then B_wa1 hb_wa2
                  refine hK.out _ _ (H_wa1.new hb_wa2) (fun H_wa2 => ?_)
                  clear hK K
                  try simp only [Act.put, List.getElem_toArray, List.getElem_cons_succ, List.getElem_cons_zero, List.setIfInBounds_toArray, List.set_cons_zero, List.set_cons_succ]
                  refine wpAnyH_take (i := 10) (v := .agg (rtL ⟨r.s, padL k r.l, padL k r.m⟩).toArray) rfl (by kernel_rfl) (by kernel_rfl) (by kernel_rfl) (fun _ _ _ h => h) (yieldsIf_buildR (by rfl) _ _ _ rfl r.s (padL k r.l) (padL k r.m) hll hlm rfl rfl rfl) (by assumption) ?_
                  try simp only [Act.put, List.getElem_toArray, List.getElem_cons_succ, List.getElem_cons_zero, List.setIfInBounds_toArray, List.set_cons_zero, List.set_cons_succ]
                  refine wpAnyH_ready (rs := [11]) (by kernel_rfl) (by simp) ?_
                  refine AllReadyH.cons rfl (fun K hK => ?_) AllReadyH.nil
                  go_simp
                  have B_c1 := belowA B_wa2 (.cells Try.zeroCells63 63)
                  have Q_c1 := Row.fresh wa2 wa2.heap.size rfl 63 (rtL zeroR) _ zeroCellsR
                  have z_c1 : wx.heap.size ≤ wa2.heap.size := B_wa2.size
                  have gz_c1 : w.heap.size + 1 < wa2.heap.size := H_wa2.row.lt
                  refine hK.out _ _ (H_wa2.new (below_alloc1 (Below.refl _ _) (Nat.le_refl _) _)) (fun H_c1 => ?_)
                  clear hK K
                  try simp only [Act.put, List.getElem_toArray, List.getElem_cons_succ, List.getElem_cons_zero, List.setIfInBounds_toArray, List.set_cons_zero, List.set_cons_succ]
                  refine wpAnyH_ready (rs := [12]) (by kernel_rfl) (by simp) ?_
                  refine AllReadyH.cons rfl (fun K hK => ?_) AllReadyH.nil
                  refine step_store_part rfl 63 _ _ rfl wa2.heap.size 0 _ rfl rfl _ _ (by exact Q_c1.out) (sizeR _ HRO.out.1) (Nat.le_of_eq (by rw [List.size_toArray, List.size_toArray, rtL_length _ HRO.out.1, rtL_length _ zeroR_ok])) (rtL_one _) ?_
                  refine hK.out _ _ (RtAt.mk (H_c1.row.grown (row_grown _ _ _) (by omega)) H_c1.ok) (fun _ => ?_)
                  clear hK K
                  try simp only [Act.put, List.getElem_toArray, List.getElem_cons_succ, List.getElem_cons_zero, List.setIfInBounds_toArray, List.set_cons_zero, List.set_cons_succ]
                  refine wpAnyH_done (by kernel_rfl) ?_ _
                  go_wp2_with fail
                  go_meet
                  exact ⟨wa2.heap.size, rfl, ⟨Q_c1.put 0 (rtL ⟨r.s, padL k r.l, padL k r.m⟩).toArray.toList (rtL ⟨r.s, padL k r.l, padL k r.m⟩) (splice_all _ _ ((rtL_length _ zeroR_ok).trans (rtL_length _ HRO.out.1).symm)), HRO.out.1⟩, grown_below B_c1 (row_grown _ _ _) B_c1.size (by first | assumption | omega)⟩
                · skip
                  go_simp
                  have B_c2 := belowA B_wa1 (.cells Try.zeroCells63 63)
                  have Q_c2 := Row.fresh wa1 wa1.heap.size rfl 63 (rtL zeroR) _ zeroCellsR
                  have z_c2 : wx.heap.size ≤ wa1.heap.size := B_wa1.size
                  have gz_c2 : w.heap.size + 1 < wa1.heap.size := H_wa1.row.lt
                  refine hK.out _ _ (H_wa1.new (below_alloc1 (Below.refl _ _) (Nat.le_refl _) _)) (fun H_c2 => ?_)
                  clear hK K
                  try simp only [Act.put, List.getElem_toArray, List.getElem_cons_succ, List.getElem_cons_zero, List.setIfInBounds_toArray, List.set_cons_zero, List.set_cons_succ]
                  refine wpAnyH_ready (rs := [9]) (by kernel_rfl) (by simp) ?_
                  refine AllReadyH.cons rfl (fun K hK => ?_) AllReadyH.nil
                  go_simp
                  (go_at_call 42; (with_reducible refine (topcutR k hk32 r.m HOK.out.m _).mono ?_); rintro rawa3 wa3 ⟨rfl, hb_wa3⟩)
                  dsimp only
                  have B_wa3 := below_then B_c2 hb_wa3
                  have Q_wa3 := Q_c2.new hb_wa3
                  refine hK.out _ _ (H_c2.new hb_wa3) (fun H_wa3 => ?_)
                  clear hK K
                  try simp only [Act.put, List.getElem_toArray, List.getElem_cons_succ, List.getElem_cons_zero, List.setIfInBounds_toArray, List.set_cons_zero, List.set_cons_succ]
                  refine wpAnyH_take (i := 10) (v := .agg (rtL ⟨r.s, padL k r.l, padL k r.m⟩).toArray) rfl (by kernel_rfl) (by kernel_rfl) (by kernel_rfl) (fun _ _ _ h => h) (yieldsIf_buildR (by rfl) _ _ _ rfl r.s (padL k r.l) (padL k r.m) hll hlm rfl rfl rfl) (by assumption) ?_
                  try simp only [Act.put, List.getElem_toArray, List.getElem_cons_succ, List.getElem_cons_zero, List.setIfInBounds_toArray, List.set_cons_zero, List.set_cons_succ]
                  refine wpAnyH_ready (rs := [12]) (by kernel_rfl) (by simp) ?_
                  refine AllReadyH.cons rfl (fun K hK => ?_) AllReadyH.nil
                  refine step_store_part rfl 63 _ _ rfl wa1.heap.size 0 _ rfl rfl _ _ (by exact Q_wa3.out) (sizeR _ HRO.out.1) (Nat.le_of_eq (by rw [List.size_toArray, List.size_toArray, rtL_length _ HRO.out.1, rtL_length _ zeroR_ok])) (rtL_one _) ?_
                  refine hK.out _ _ (RtAt.mk (H_wa3.row.grown (row_grown _ _ _) (by omega)) H_wa3.ok) (fun _ => ?_)
                  clear hK K
                  try simp only [Act.put, List.getElem_toArray, List.getElem_cons_succ, List.getElem_cons_zero, List.setIfInBounds_toArray, List.set_cons_zero, List.set_cons_succ]
                  refine wpAnyH_done (by kernel_rfl) ?_ _
                  go_wp2_with fail
                  go_meet
                  exact ⟨wa1.heap.size, rfl, ⟨Q_wa3.put 0 (rtL ⟨r.s, padL k r.l, padL k r.m⟩).toArray.toList (rtL ⟨r.s, padL k r.l, padL k r.m⟩) (splice_all _ _ ((rtL_length _ zeroR_ok).trans (rtL_length _ HRO.out.1).symm)), HRO.out.1⟩, grown_below B_wa3 (row_grown _ _ _) B_wa3.size (by first | assumption | omega)⟩
              · skip
                go_simp
                have B_c3 := belowA B0 (.cells Try.zeroCells63 63)
                have Q_c3 := Row.fresh W.drew W.drew.heap.size rfl 63 (rtL zeroR) _ zeroCellsR
                have z_c3 : wx.heap.size ≤ W.drew.heap.size := B0.size
                have gz_c3 : w.heap.size + 1 < W.drew.heap.size := hHeld.row.lt
                refine hK.out _ _ (hHeld.new (below_alloc1 (Below.refl _ _) (Nat.le_refl _) _)) (fun H_c3 => ?_)
                clear hK K
                try simp only [Act.put, List.getElem_toArray, List.getElem_cons_succ, List.getElem_cons_zero, List.setIfInBounds_toArray, List.set_cons_zero, List.set_cons_succ]
                refine wpAnyH_ready (rs := [5]) (by kernel_rfl) (by simp) ?_
                refine AllReadyH.cons rfl (fun K hK => ?_) AllReadyH.nil
                go_simp
                (go_at_call 42; (with_reducible refine (topcutR k hk32 r.l HOK.out.l _).mono ?_); rintro rawa4 wa4 ⟨rfl, hb_wa4⟩)
                dsimp only
                have B_wa4 := below_then B_c3 hb_wa4
                have Q_wa4 := Q_c3.new hb_wa4
                refine hK.out _ _ (H_c3.new hb_wa4) (fun H_wa4 => ?_)
                clear hK K
                try simp only [Act.put, List.getElem_toArray, List.getElem_cons_succ, List.getElem_cons_zero, List.setIfInBounds_toArray, List.set_cons_zero, List.set_cons_succ]
                refine wpAnyH_ready (rs := [9]) (by kernel_rfl) (by simp) ?_
                refine AllReadyH.cons rfl (fun K hK => ?_) AllReadyH.nil
                go_simp
                (go_at_call 42; (with_reducible refine (topcutR k hk32 r.m HOK.out.m _).mono ?_); rintro rawa5 wa5 ⟨rfl, hb_wa5⟩)
                dsimp only
                have B_wa5 := below_then B_wa4 hb_wa5
                have Q_wa5 := Q_wa4.new hb_wa5
                refine hK.out _ _ (H_wa4.new hb_wa5) (fun H_wa5 => ?_)
                clear hK K
                try simp only [Act.put, List.getElem_toArray, List.getElem_cons_succ, List.getElem_cons_zero, List.setIfInBounds_toArray, List.set_cons_zero, List.set_cons_succ]
                refine wpAnyH_take (i := 10) (v := .agg (rtL ⟨r.s, padL k r.l, padL k r.m⟩).toArray) rfl (by kernel_rfl) (by kernel_rfl) (by kernel_rfl) (fun _ _ _ h => h) (yieldsIf_buildR (by rfl) _ _ _ rfl r.s (padL k r.l) (padL k r.m) hll hlm rfl rfl rfl) (by assumption) ?_
                try simp only [Act.put, List.getElem_toArray, List.getElem_cons_succ, List.getElem_cons_zero, List.setIfInBounds_toArray, List.set_cons_zero, List.set_cons_succ]
                refine wpAnyH_ready (rs := [12]) (by kernel_rfl) (by simp) ?_
                refine AllReadyH.cons rfl (fun K hK => ?_) AllReadyH.nil
                refine step_store_part rfl 63 _ _ rfl W.drew.heap.size 0 _ rfl rfl _ _ (by exact Q_wa5.out) (sizeR _ HRO.out.1) (Nat.le_of_eq (by rw [List.size_toArray, List.size_toArray, rtL_length _ HRO.out.1, rtL_length _ zeroR_ok])) (rtL_one _) ?_
                refine hK.out _ _ (RtAt.mk (H_wa5.row.grown (row_grown _ _ _) (by omega)) H_wa5.ok) (fun _ => ?_)
                clear hK K
                try simp only [Act.put, List.getElem_toArray, List.getElem_cons_succ, List.getElem_cons_zero, List.setIfInBounds_toArray, List.set_cons_zero, List.set_cons_succ]
                refine wpAnyH_done (by kernel_rfl) ?_ _
                go_wp2_with fail
                go_meet
                exact ⟨W.drew.heap.size, rfl, ⟨Q_wa5.put 0 (rtL ⟨r.s, padL k r.l, padL k r.m⟩).toArray.toList (rtL ⟨r.s, padL k r.l, padL k r.m⟩) (splice_all _ _ ((rtL_length _ zeroR_ok).trans (rtL_length _ HRO.out.1).symm)), HRO.out.1⟩, grown_below B_wa5 (row_grown _ _ _) B_wa5.size (by first | assumption | omega)⟩
            case rest =>
              obtain ⟨g, rfl, RG, BG⟩ := hcut
              obtain ⟨hok9, z, hz9⟩ := HRO.out
              obtain ⟨hd9, hz8⟩ := decR_laid k _ hok9 z hz9
              have HOK9 := Lib.hid hok9
              have HZ9 := Lib.hid hz9
              have HD9 := Lib.hid hd9
              have hzl : z.length ≤ 72 := by rw [hz8]; omega
              have HE := fun w => run_equalRR2 w _ hok9
              have BW := Lib.hid (below_then (below_then HB.out BX.out) BG)
              have HRG := Lib.hid RG
              obtain ⟨fe, yv, hyv⟩ : ∃ fe yv, decF P = (fe, yv) := ⟨_, _, rfl⟩
              have hyk : yv.k ≤ 255 := by have := decF_k2 P; rw [hyv] at this; exact this
              have hG : (fe = 0 ∧ encE yv = (P, 0)) ∨ (((fe : Int) != 0) = true ∧ yv = ⟨0, [], []⟩) := by
                by_cases h0 : fe = 0
                · subst h0
                  exact .inl ⟨rfl, decF_back P yv hyv⟩
                · exact .inr ⟨by rw [bne_iff_ne]; omega, decF_none P fe yv hyv h0⟩
              have HYV := Lib.hid hyv
              obtain ⟨R9, hR9⟩ : ∃ R9 : Rt, R9 = ⟨r.s, padL k r.l, padL k r.m⟩ := ⟨_, rfl⟩
              rw [← hR9] at HOK9 HZ9 HD9 HE HRG
              clear hR9 hz8 hok9 hz9 hd9 hyv RG hcut
              clear HEX HGX HUX nbX E10 E9 HGE HQ HDB
              rcases hG with ⟨rfl, hy⟩ | ⟨hG, rfl⟩
              all_goals
                first | (have HY := Lib.hid hy; clear hy) | skip
                go_wp2_with (first
                  | (refine wp_op_is (.load 63 (.tmp 24)) rfl ?_; refine wp_load_part rfl 63 _ rfl _ rfl (rtL R9).toArray HRG.out.all _ Try.underlying63 rfl (sizeR _ HOK9.out) ?_)
                  | (go_at_call 33; (with_reducible refine (encodeRootN2 _ R9 HOK9.out _ z 0 HZ9.out _ rfl).mono ?_); rintro r50 w50 ⟨A50, c50, rfl, hn50⟩; have RD := Lib.hid (HRG.out.new hn50.below); have BD := Lib.hid (below_then BW.out hn50.below))
                  | (go_at_call 35; (with_reducible refine (decodeRoot_calls _ A50 z _ c50 _ hn50.own.rb rfl (by omega) _ R9 HD9.out).mono ?_); rintro r51 wf ⟨rfl, hbf⟩; have RF := Lib.hid ((RD.out.new hbf).new (below_alloc1 (Below.refl _ _) (Nat.le_refl _) (.cells Try.zeroCells63 63))); have BF := Lib.hid (belowA (below_then BD.out hbf) (.cells Try.zeroCells63 63)); have QF := Lib.hid (Row.fresh wf wf.heap.size rfl 63 (rtL zeroR) _ zeroCellsR); have hzf : g < wf.heap.size := (RD.out.new hbf).row.lt; have hzg2 : w.heap.size ≤ wf.heap.size := (below_then BD.out hbf).size)
                  | (refine wp_op_is (.store 63 (.tmp 27) (.tmp 175)) rfl ?_; refine wp_store_part rfl 63 _ _ rfl wf.heap.size 0 _ rfl rfl _ _ (by exact QF.out.out) (sizeR _ HOK9.out) (Nat.le_of_eq (by rw [List.size_toArray, List.size_toArray, rtL_length _ HOK9.out, rtL_length _ zeroR_ok])) (rtL_one _) ?_; have GG := row_grown (wf.alloc (.cells Try.zeroCells63 63)) wf.heap.size (splice (rtL zeroR).toArray.toList 0 (rtL R9).toArray.toList).toArray; have QG := Lib.hid (QF.out.put 0 (rtL R9).toArray.toList (rtL R9) (splice_all _ _ ((rtL_length _ zeroR_ok).trans (rtL_length _ HOK9.out).symm))); have RG := Lib.hid (RF.out.row.grown GG (by omega)); have BG := Lib.hid (grown_below BF.out GG BF.out.size hzg2))
                  | (refine wp_op_is (.load 63 (.tmp 27)) rfl ?_; refine wp_load_partW (by rfl) 63 _ rfl _ rfl (rtL R9).toArray (QG.out.part [] [] (rtL R9) (by simp) 0 rfl _ rfl) _ Try.underlying63 rfl (sizeR _ HOK9.out) ?_)
                  | (refine wp_op_is (.load 63 (.tmp 24)) rfl ?_; refine wp_load_partW (by rfl) 63 _ rfl _ rfl (rtL R9).toArray (RG.out.part [] [] (rtL R9) (by simp) 0 rfl _ rfl) _ Try.underlying63 rfl (sizeR _ HOK9.out) ?_)
                  | (go_at_call 24; (with_reducible refine (decEN2 AP P _ cp _ (hp.new BG.out) rfl (by omega) _ _ HYV.out).mono ?_); rintro r55 w55 ⟨a55, rfl, hn55⟩; have B55 := Lib.hid (fun X => belowA (below_then BG.out hn55.below) X))
                  | (go_at_call 22; (with_reducible refine (encEN2 _ a55 _ _ rfl rfl _ ((hn55.ok hyk).new (below_alloc1 (Below.refl _ _) (Nat.le_refl _) _)) P 0 HY.out).mono ?_); rintro r56 w56 ⟨A56, c56, rfl, hn56⟩; have B56 := Lib.hid (below_then (B55.out _) hn56.below))
                  | (go_at_call 43; (with_reducible refine (topsameN A56 AP P _ _ c56 cp _ hn56.own.rb (hp.new B56.out) rfl rfl).mono ?_); rintro r57 w57 ⟨rfl, rfl⟩))
                go_ret
                exact ⟨rfl, by first | exact B56.out | exact B55.out _⟩
end Go.Proofs.Ytelecdncdaepnaa
