/- Copies of lists of entries and of batches. -/
import Derived.Test.YtelecdncdaepnaaSameEntry
import Derived.Lib.SmallJoins
namespace Go.Proofs.Ytelecdncdaepnaa
open Go.RowKit
open WireMath (numS beN rawS blobS uvarS grpL uvarL wideL)

theorem NewE.far {w w' : World} {e : En} {a : EnA} (h : NewE w w' e a) {base : Nat} (hb : base ≤ w.heap.size) {v : Value} (hv : ∀ k, v.ownBlock = some k → k < w.heap.size) : FarE base v (e, a) :=
  ⟨fun ad e' hp => by
    have := h.K.lo ad e' hp
    exact ⟨Nat.le_trans hb this, fun e9 => by have := hv _ e9; have h9 : w.heap.size ≤ ad.block := h.K.lo ad e' hp; omega⟩,
   fun ad e' hp => by
    have := h.V.lo ad e' hp
    exact ⟨Nat.le_trans hb this, fun e9 => by have := hv _ e9; have h9 : w.heap.size ≤ ad.block := h.V.lo ad e' hp; omega⟩⟩
def SmallEs (es : List EnX) : Prop := ∀ x ∈ es, x.1.K.length ≤ 140737488355328 ∧ x.1.V.length ≤ 140737488355328
theorem FarE.mono {lo lo' : Nat} {v : Value} {x : EnX} (h : FarE lo v x) (hb : lo' ≤ lo) : FarE lo' v x :=
  ⟨fun a e hp => ⟨Nat.le_trans hb (h.K a e hp).1, (h.K a e hp).2⟩, fun a e hp => ⟨Nat.le_trans hb (h.V a e hp).1, (h.V a e hp).2⟩⟩
theorem EL.mono {w : World} {base base' n : Nat} {v : Value} {es : List EnX} (h : EL w base v n es) (hb : base' ≤ base) : EL w base' v n es := ⟨Joins.ownsRow_le h.row hb, h.len, h.ok, fun x hx => (h.far x hx).mono hb⟩
theorem results_bat {fn : Func} {p : Tmp} (h : fn.results = #[.cell p 34]) (tmps : Array Value) (w : World) (b : Nat) (x y : Value) (hp : tmps.getD p undef = .pointer (some ⟨b, 0, none⟩)) (ht : Duo w b x y) :
    (results fn tmps).run Try.prog w = .ok (.agg #[x, y]) w := by
  have hp' : tmps[p]?.getD undef = .pointer (some ⟨b, 0, none⟩) := by simpa using hp
  have hl := run_loadVar_mid (P := Try.prog) w b 0 34 [x, y] _ (fun j v hj => by
    match j, hj with
    | 0, hj => simp at hj; subst hj; simpa using ht.c0
    | 1, hj => simp at hj; subst hj; simpa using ht.c1
    | j + 2, hj => simp at hj) Try.underlying34 rfl (by kernel_rfl)
  simp [results, h, hp', asAddr, hl]
set_option maxRecDepth 100000 in
theorem twinEs_calls (A : Option Addr) (es : List EnX) (n c : Nat) (w : World) (h : Ents w A es) (hn : n = es.length) (hl : n * 56 ≤ 140737488355328) (hs : SmallEs es) :
    Calls Try.prog 51 #[.slice A n c] w fun r w' => ∃ A' c' ds, r = .returned (.slice A' n c') ∧ EL w' w.heap.size (.slice A' n c') n ds ∧ ensOf ds = ensOf es ∧ Below w.heap.size w w' := by
  have HN := Lib.hid hn
  clear hn
  go_enter Try.func51, Try.ntmps51
  go_wp2
  go_loopw [3, 5, 8] (fun v _ iv wr => ∃ (j : Nat) (A1 : Option Addr) (c1 : Nat) (ds : List EnX), j ≤ n ∧ iv = .int .i64 j ∧ v = .slice A1 j c1 ∧ EL wr w.heap.size (.slice A1 j c1) j ds ∧ ensOf ds = ensOf (es.take j) ∧ Below w.heap.size w wr) (fun _ _ iv _ => n - (intOf iv).toNat)
  case atStart => exact ⟨0, none, 0, [], Nat.zero_le _, rfl, rfl, EL.nil _ _, by simp [ensOf], Below.refl _ _⟩
  case round =>
    obtain ⟨j, A1, c1, ds, hj, rfl, rfl, HEL, hds, HBB⟩ := hrel
    by_cases hlt : j < n
    · obtain ⟨a, o, x, rfl, ho, hmem, hok, k0, k1, k2⟩ := (h.new HBB).at_ j (by rw [← HN.out]; exact hlt)
      obtain ⟨s1, s2⟩ := hs _ hmem
      have HB5 := Lib.hid (belowA HBB (.cells #[.int .u8 o.k, .slice x.KA o.K.length x.kc, .slice x.VA o.V.length x.vc] 26))
      have HT5 := Lib.hid (Trio.fresh wr wr.heap.size rfl (.int .u8 o.k) (.slice x.KA o.K.length x.kc) (.slice x.VA o.V.length x.vc) 26)
      have HEL5 := Lib.hid (HEL.new (below_alloc1 (Below.refl _ _) (Nat.le_refl _) (.cells #[.int .u8 o.k, .slice x.KA o.K.length x.kc, .slice x.VA o.V.length x.vc] 26)))
      have HDS := Lib.hid (show ensOf (ds ++ [(o, x)]) = ensOf (es.take (j + 1)) by rw [ensOf_take es j o x ho, ← hds]; simp [ensOf])
      have HROW := Lib.hid HEL5.out.lt
      have hk := hok.k
      clear ho hds
      go_wp2_with (first
        | (go_at_call 23; go_loud ((with_reducible refine (twinEntry_calls o x _ _ rfl rfl _ (hok.new (below_alloc1 (Below.refl _ _) (Nat.le_refl _) _)) s1 s2).mono ?_)); rintro e5 w5 ⟨a5, rfl, hn5⟩; have B5 := Lib.hid (below_then HB5.out hn5.below); have L5 := Lib.hid (HEL5.out.new hn5.below); have R5 := Lib.hid (hn5.far (base := w.heap.size) (v := .slice A1 j c1) HB5.out.size (fun k e9 => (HROW.out k e9).2)); have E5 := Lib.hid (hn5.ok hk))
        | (refine wp_appendE ent rfl (.tmp 12) (.tmp 15) rfl w.heap.size (.slice A1 j c1) j ds rfl (L5.out.new (below_alloc1 (Below.refl _ _) (Nat.le_refl _) (.cells #[.int .u8 o.k, .slice a5.KA o.K.length a5.kc, .slice a5.VA o.V.length a5.vc] 26))) (o, a5) ⟨w5.heap.size, 0, Option.none⟩ rfl (tri_at w5 _ _ _ _).1 (tri_at w5 _ _ _ _).2.1 (tri_at w5 _ _ _ _).2.2 (E5.out.new (below_alloc1 (Below.refl _ _) (Nat.le_refl _) (.cells #[.int .u8 o.k, .slice a5.KA o.K.length a5.kc, .slice a5.VA o.V.length a5.vc] 26))) R5.out (by omega) (belowA B5.out (.cells #[.int .u8 o.k, .slice a5.KA o.K.length a5.kc, .slice a5.VA o.V.length a5.vc] 26)).size fun A' c' w7 hl7 hg7 => ?_; have B7 := Lib.hid ((belowA B5.out (.cells #[.int .u8 o.k, .slice a5.KA o.K.length a5.kc, .slice a5.VA o.V.length a5.vc] 26)).grown hg7 (belowA B5.out (.cells #[.int .u8 o.k, .slice a5.KA o.K.length a5.kc, .slice a5.VA o.V.length a5.vc] 26)).size (fun k e9 => (HROW.out _ e9).1))))
      go_roundw
      case rel => exact ⟨j + 1, A', c', ds ++ [(o, a5)], by omega, by go_num, rfl, hl7, by rw [← HDS.out]; simp [ensOf], B7.out⟩
      case measure => simp [intOf]; omega
    · obtain rfl : j = n := by omega
      clear hlt
      rw [List.take_of_length_le (Nat.le_of_eq HN.out.symm)] at hds
      go_wp2
      go_ret
      exact ⟨A1, c1, ds, rfl, HEL, hds, HBB⟩
set_option maxRecDepth 100000 in
theorem twinB_calls (f : Nat) (A : Option Addr) (es : List EnX) (n c : Nat) (w : World) (h : Ents w A es) (hn : n = es.length) (hl : n * 56 ≤ 140737488355328) (hs : SmallEs es) :
    Calls Try.prog 17 #[.agg #[.int .u64 f, .slice A n c]] w fun r w' => ∃ A' c' ds, r = .returned (.agg #[.int .u64 f, .slice A' n c']) ∧ EL w' w.heap.size (.slice A' n c') n ds ∧ ensOf ds = ensOf es ∧ Below w.heap.size w w' := by
  have HB := Lib.hid (belowA (below_alloc1 (Below.refl w.heap.size w) (Nat.le_refl _) (.cells #[.int .u64 f, .slice A n c] 34)) (.cells #[.int .u64 0, .slice none 0 0] 34))
  have HT := Lib.hid ((Duo.fresh w w.heap.size rfl (.int .u64 f) (.slice A n c) 34).new (below_alloc1 (Below.refl _ _) (Nat.le_refl _) (.cells #[.int .u64 0, .slice none 0 0] 34)))
  have HS := Lib.hid (Duo.fresh (w.alloc (.cells #[.int .u64 f, .slice A n c] 34)) (w.heap.size + 1) (asz _ _) (.int .u64 0) (.slice none 0 0) 34)
  have x0 := HT.out.c0
  have x1 := HT.out.c1
  have HH := Lib.hid (h.new HB.out)
  have HN := Lib.hid hn
  clear hn
  go_enter Try.func17, Try.ntmps17
  go_wp2
  go_region_held3 (fun w' => w'.cell? ⟨w.heap.size, 0, none⟩ = some (.int .u64 f) ∧ w'.cell? ⟨w.heap.size, 1, none⟩ = some (.slice A n c)) (go_keep) (first | (go_at_call 51; go_loud ((with_reducible refine (twinEs_calls A es n c _ (HH.out.new (below_drew _ _)) HN.out hl hs).mono ?_)); rintro e3 w3 ⟨A3, c3, ds, rfl, hl3, hd3, hb3⟩; have T3 := (HT.out.new (below_drew _ _)).new hb3; have S3 := (HS.out.new (below_drew _ _)).new hb3; have hz3 := S3.lt; have x0 := T3.c0; have x1 := T3.c1; have s0 := S3.c0; have s1 := S3.c1; have f0 := S3.fz 0; have f1 := S3.fz 1; have B3 := Lib.hid (below_then HB.out.drew hb3)))
  all_goals
    go_wp2
    have hle : w.heap.size + 1 + 1 ≤ (((w.alloc (.cells #[.int .u64 f, .slice A n c] 34)).alloc (.cells #[.int .u64 0, .slice none 0 0] 34)).drew).heap.size := Nat.le_of_eq (asz2 _ _ _).symm
    exact bodyPost_ret (results_bat rfl _ _ (w.heap.size + 1) _ _ rfl ((S3.set0 (.int .u64 f)).set1 (.slice A3 n c3))) rfl ⟨A3, c3, ds, rfl, ((hl3.setLow (by omega)).setLow (by omega)).mono (by omega), hd3, ((B3.out).setCell (by show w.heap.size ≤ w.heap.size + 1; omega) _).setCell (by show w.heap.size ≤ w.heap.size + 1; omega) _⟩
end Go.Proofs.Ytelecdncdaepnaa
