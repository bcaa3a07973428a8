/- Layer 5: entry.DecodeRoot. -/
import Derived.Test.YtelecdncdaepnaaRootEnc
namespace Go.Proofs.Ytelecdncdaepnaa
open Go.RowKit
open WireMath (numS beN rawS blobS uvarS grpL uvarL wideL)
attribute [local go_sem ↓] Go.wp_at_zero Go.wp_at_succ

def zeroD : List UInt8 := List.replicate 32 0
def zeroR : Rt := ⟨0, zeroD, zeroD⟩
def padR (p : List UInt8) : List UInt8 := p ++ List.replicate (32 - p.length) 0
theorem padR_length (p : List UInt8) (h : p.length ≤ 32) : (padR p).length = 32 := by unfold padR; rw [List.length_append, List.length_replicate]; omega
theorem zeroR_ok : RtOk zeroR := ⟨by show 0 ≤ _; omega, by show (List.replicate 32 (0 : UInt8)).length = 32; rw [List.length_replicate], by show (List.replicate 32 (0 : UInt8)).length = 32; rw [List.length_replicate]⟩
/-- what a reader tells of a root, fault or not -/
structure RtS (P : List UInt8) (k v a1 e1 : Nat) (p : List UInt8) (a2 e2 : Nat) (q : List UInt8) (a3 e3 : Nat) : Prop where
  s1 : numS P 0 0 8 = (v, a1, e1)
  s2 : rawS P a1 e1 k = (p, a2, e2)
  s3 : rawS P a2 e2 k = (q, a3, e3)
theorem raw_len (P : List UInt8) (a e k : Nat) : (rawS P a e k).1.length ≤ k := by
  unfold WireMath.rawS
  split
  · simp
  · split
    · simp
    · split
      · simp
      · simp [List.length_take]; omega
theorem splice_log (s : Value) (l m p : List UInt8) (hl : l = zeroD) (hp : p.length ≤ 32) : splice (s :: (encB l ++ encB m)) 1 (encB p) = s :: (encB (padR p) ++ encB m) := by
  subst hl
  unfold splice padR
  rw [show List.take 1 (s :: (encB zeroD ++ encB m)) = [s] from rfl, encB_length, Nat.add_comm, List.drop_succ_cons, List.drop_append_of_le_length (by rw [encB_length]; simp [zeroD]; omega), encB_drop, encB_append]
  rw [show zeroD = List.replicate 32 0 from rfl, List.drop_replicate]
  simp
theorem splice_map (s : Value) (l m p : List UInt8) (hl : l.length = 32) (hm : m = zeroD) (_hp : p.length ≤ 32) : splice (s :: (encB l ++ encB m)) 33 (encB p) = s :: (encB l ++ encB (padR p)) := by
  subst hm
  unfold splice padR
  have e1 : List.take 33 (s :: (encB l ++ encB zeroD)) = s :: encB l := by
    rw [List.take_succ_cons, List.take_append_of_le_length (by rw [encB_length]; omega), List.take_of_length_le (by rw [encB_length]; omega)]
  have e2 : List.drop (33 + (encB p).length) (s :: (encB l ++ encB zeroD)) = encB (List.replicate (32 - p.length) 0) := by
    rw [encB_length, show 33 + p.length = (32 + p.length) + 1 by omega, List.drop_succ_cons, ← List.drop_drop, List.drop_append, List.drop_eq_nil_of_le (show (encB l).length ≤ 32 by rw [encB_length]; omega), List.nil_append, encB_length, hl, Nat.sub_self, List.drop_zero, encB_drop, show zeroD = List.replicate 32 0 from rfl, List.drop_replicate]
  rw [e1, e2, encB_append]
  simp
theorem results_rt {fn : Func} {p x : Tmp} (h : fn.results = #[.cell p 63, .tmp x]) (tmps : Array Value) (w : World) (g : Nat) (T : TypeId) (r : Rt) (hp : tmps.getD p undef = .pointer (some ⟨g, 0, none⟩)) (ht : RtAt w g T r) :
    (results fn tmps).run Try.prog w = .ok (.tuple #[.agg (rtL r).toArray, tmps.getD x undef]) w := by
  have hp' : tmps[p]?.getD undef = .pointer (some ⟨g, 0, none⟩) := by simpa using hp
  have hl := run_loadVar_part (P := Try.prog) w ⟨g, 0, none⟩ 63 (rtL r).toArray _ ht.all Try.underlying63 rfl (sizeR r ht.ok)
  simp [results, h, hp', asAddr, hl]
theorem Rd.apart {w w' : World} {B b : Nat} {P : List UInt8} {at_ e : Nat} (h : Rd w (B ≤ ·) b P at_ e) {g : Nat} (hk : w.grownBy w' (some g)) (hg : g < B) : Rd w' (B ≤ ·) b P at_ e :=
  h.keep (hk.block b h.bLt (fun e => by have e1 := Option.some.inj e; have h1 : B ≤ b := h.lo; omega)) (fun k hb _ hl => hk.block k hl (fun e => by have e1 := Option.some.inj e; have h1 : B ≤ k := hb; omega))
theorem set_grown (w : World) (g j : Nat) (v : Value) : w.grownBy (w.setCell ⟨g, j, none⟩ v) (some g) := setCell_grown w g j v
theorem grown_below {B : Nat} {w0 w w' : World} {g : Nat} (hb : Below B w0 w) (hg : w.grownBy w' (some g)) (hB : B ≤ w.heap.size) (h : B ≤ g) : Below B w0 w' := hb.grown hg hB (fun _ e => by have e1 := Option.some.inj e; omega)
theorem rtL_one (r : Rt) : (rtL r).toArray.all (·.oneCell') = true := by
  rw [Array.all_eq_true_iff_forall_mem]
  intro v hv
  rw [List.mem_toArray] at hv
  unfold rtL at hv
  rcases List.mem_cons.1 hv with rfl | hv
  · rfl
  · rcases List.mem_append.1 hv with h | h
    · exact encB_one _ v h
    · exact encB_one _ v h
theorem doneS {w : World} {base : Nat → Prop} {b : Nat} {P : List UInt8} {at_ e : Nat} (hr : Rd w base b P at_ e) (d : Nat) (h : doneE P at_ e = d) :
    Calls Try.prog 63 #[.pointer (some ⟨b, 0, none⟩)] w fun e' w' => e' = .returned (.int .i64 d) ∧ Drawn w w' := by
  have := done_calls base b P at_ e w hr
  rw [h] at this; exact this
theorem ru64S {w : World} {base : Nat → Prop} {b : Nat} {P : List UInt8} {at_ e : Nat} (hr : Rd w base b P at_ e) (hl : P.length ≤ 140737488355328) (v a1 e1 : Nat) (h : numS P at_ e 8 = (v, a1, e1)) :
    Calls Try.prog 83 #[.pointer (some ⟨b, 0, none⟩)] w fun e' w' => e' = .returned (.int .u64 v) ∧ Rd w' base b P a1 e1 ∧ w.grownBy w' (some b) := by
  have := ru64_calls base b P at_ e w hr (by omega)
  rw [h] at this; exact this
theorem rrawSS {w : World} {base : Nat → Prop} {b : Nat} {P : List UInt8} {at_ e : Nat} (hr : Rd w base b P at_ e) (hl : P.length ≤ 140737488355328) (k : Nat) (hk : k ≤ 32) (p : List UInt8) (a1 e1 : Nat) (h : rawS P at_ e k = (p, a1, e1)) :
    Calls Try.prog 84 #[.pointer (some ⟨b, 0, none⟩), .int .i64 k] w fun e' w' => ∃ A' c', e' = .returned (.slice A' p.length c') ∧ Got w w' base b P (.slice A' p.length c') (p, a1, e1) := by
  have := rraw_calls base b P at_ e k w hr hl (by omega)
  rw [h] at this; exact this
theorem zeroCellsR : Try.zeroCells63 = (rtL zeroR).toArray := rfl
set_option maxHeartbeats 1000000 in
set_option maxRecDepth 100000 in
theorem decodeRoot_ok (k : Nat) (hk0 : 1 ≤ k) (hk : k ≤ 32) (A : Option Addr) (P : List UInt8) (n c : Nat) (w : World) (hp : RB w A c P) (hn : n = P.length) (hl : P.length ≤ 140737488355328) (v a1 e1 : Nat) (p : List UInt8) (a2 e2 : Nat) (q : List UInt8) (a3 e3 : Nat) (hS : RtS P k v a1 e1 p a2 e2 q a3 e3) (d : Nat) (hd : doneE P a3 e3 = d) (X : Rt) (E : Int) (hX : X = if d = 0 then ⟨v, padR p, padR q⟩ else zeroR) (hE : E = if d = 0 then 0 else 3) :
    Calls Try.prog 35 #[.int .i64 k, .slice A n c] w fun e w' => e = .returned (.tuple #[.agg (rtL X).toArray, .int .i64 E]) ∧ Below w.heap.size w w' := by
  subst hn
  have HW := Lib.hid (show (wideF k : Int) = 0 by unfold wideF; rw [if_neg (by omega)]; rfl)
  have hz : (rtL zeroR).toArray = Array.mk (rtL zeroR) := rfl
  have hpl : p.length ≤ 32 := by have := raw_len P a1 e1 k; rw [hS.s2] at this; simp only at this; omega
  have hql : q.length ≤ 32 := by have := raw_len P a2 e2 k; rw [hS.s3] at this; simp only at this; omega
  have HS := Lib.hid hS
  have HD := Lib.hid hd
  have HP := Lib.hid (hp.new (below_alloc1 (below_alloc1 (Below.refl w.heap.size w) (Nat.le_refl _) (.cells (rtL zeroR).toArray 63)) (by rw [szA]; omega) (.cells (rtL zeroR).toArray 63)))
  have HOK := Lib.hid (show RtOk ⟨v, padR p, padR q⟩ from ⟨by
    have := hS.s1
    unfold WireMath.numS at this
    rw [if_neg (by simp)] at this
    split at this
    · have e := congrArg Prod.fst this; simp only at e; show v ≤ _; omega
    · have e := congrArg Prod.fst this
      simp only at e
      have h9 := WireMath.beN_lt ((P.drop 0).take 8) 8 (List.length_take_le _ _)
      show v ≤ _
      omega, padR_length p hpl, padR_length q hql⟩)
  have HX := Lib.hid hX
  have HE := Lib.hid hE
  clear hz hS hd hX hE
  go_enter Try.func35, Try.ntmps35
  go_wp2_with (first
    | (go_at_call 76; (with_reducible refine (ewideN _ 0 HW.out _).mono ?_); rintro e1 w1 ⟨rfl, rfl⟩)
    | (go_at_call 58; (refine (newReader_calls A P c P.length _ HP.out rfl hl).mono ?_); rintro e1 w1 ⟨b, rfl, hr1, hb1⟩; simp only [szA] at hr1; have hlb : w.heap.size + 1 + 1 ≤ b := hr1.lo; have R1 := Lib.hid ((Row.fresh (w.alloc (.cells (rtL zeroR).toArray 63)) (w.heap.size + 1) (by rw [szA]) 63 (rtL zeroR) _ rfl).new hb1); have R01 := Lib.hid (((Row.fresh w w.heap.size rfl 63 (rtL zeroR) _ rfl).alloc (.cells (rtL zeroR).toArray 63)).new hb1); have B1 := Lib.hid ((below_alloc1 (below_alloc1 (Below.refl w.heap.size w) (Nat.le_refl _) (.cells (rtL zeroR).toArray 63)) (by rw [szA]; omega) (.cells (rtL zeroR).toArray 63)).trans (hb1.mono (by rw [szA, szA]; omega))))
    | (go_at_call 83; (with_reducible refine (ru64S hr1 hl v a1 e1 HS.out.s1).mono ?_); rintro e2 w2 ⟨rfl, hr2, hg2⟩; have R2 := Lib.hid (R1.out.grown hg2 (by omega)); have R02 := Lib.hid (R01.out.grown hg2 (by omega)); have B2 := Lib.hid (grown_below B1.out hg2 B1.out.size (by omega)); have cc := (R2.out.cell 0).trans (show (rtL zeroR)[0]? = some (.int .u64 0) from rfl); have ff := R2.out.fz 0))
  have R3 := Lib.hid ((R2.out.set 0 (.int .u64 v) (rtL ⟨v, zeroD, zeroD⟩) rfl).drew)
  have R03 := Lib.hid ((R02.out.grown (set_grown w2 (w.heap.size + 1) 0 (.int .u64 v)) (by omega)).drew)
  have B3 := Lib.hid ((grown_below B2.out (set_grown w2 (w.heap.size + 1) 0 (.int .u64 v)) B2.out.size (by omega)).drew)
  have hr3 := (hr2.apart (set_grown w2 (w.heap.size + 1) 0 (.int .u64 v)) (by omega)).new (below_drew _ _)
  clear cc ff
  have hall := fun (w' : World) (A : Addr) => run_all_arr (P := Try.prog) w' 61 5 32 Try.underlying61 (by kernel_rfl) A
  refine wp_region_noPanic ?_
  go_region_law (first
    | (go_simp; go_at_call 84; (with_reducible refine (rrawSS hr3 hl k hk p a2 e2 HS.out.s2).mono ?_); rintro e4 w4 ⟨A4, c4, rfl, hn4⟩; have R4 := Lib.hid (R3.out.grown hn4.grown (by omega)); have R04 := Lib.hid (R03.out.grown hn4.grown (by omega)); have B4 := Lib.hid (grown_below B3.out hn4.grown B3.out.size (by omega)))
    | (refine step_copy_part rfl (.tmp 21) (.tmp 24) 24 24 rfl 5 bt.sl (by kernel_rfl) (w.heap.size + 1) 1 32 32 p.length c4 A4 rfl rfl (rtL ⟨v, zeroD, zeroD⟩) 63 R4.out p rfl hpl hn4.own.reads (by rw [show (rtL ⟨v, zeroD, zeroD⟩).length = 65 from rfl]; omega) (rtL ⟨v, padR p, zeroD⟩) (splice_log _ _ _ _ rfl hpl) ?_; intro w5 R5 hg5; have R05 := Lib.hid (R04.out.grown hg5 (by omega)); have B5 := Lib.hid (grown_below B4.out hg5 B4.out.size (by omega)); have hr5 := (hn4.rd.apart hg5 (by omega)).new (below_drew _ _); have R5d := Lib.hid R5.drew; have R05d := Lib.hid R05.out.drew; have B5d := Lib.hid B5.out.drew))
  all_goals refine NoPanic.normal ?_
  clear R5
  go_wp2
  refine wp_region_noPanic ?_
  go_region_law (first
    | (go_simp; go_at_call 84; (with_reducible refine (rrawSS hr5 hl k hk q a3 e3 HS.out.s3).mono ?_); rintro e6 w6 ⟨A6, c6, rfl, hn6⟩; have R6 := Lib.hid (R5d.out.grown hn6.grown (by omega)); have R06 := Lib.hid (R05d.out.grown hn6.grown (by omega)); have B6 := Lib.hid (grown_below B5d.out hn6.grown B5d.out.size (by omega)))
    | (refine step_copy_part rfl (.tmp 27) (.tmp 30) 24 24 rfl 5 bt.sl (by kernel_rfl) (w.heap.size + 1) 33 32 32 q.length c6 A6 rfl rfl (rtL ⟨v, padR p, zeroD⟩) 63 R6.out q rfl hql hn6.own.reads (by rw [rtL, List.length_cons, List.length_append, encB_length, encB_length, padR_length p hpl, show zeroD.length = 32 from rfl]; omega) (rtL ⟨v, padR p, padR q⟩) (splice_map _ _ _ _ (padR_length p hpl) rfl hql) ?_; intro w7 R7 hg7; have R07 := Lib.hid (R06.out.grown hg7 (by omega)); have B7 := Lib.hid (grown_below B6.out hg7 B6.out.size (by omega)); have hr7 := hn6.rd.apart hg7 (by omega); have R7h := Lib.hid R7))
  all_goals refine NoPanic.normal ?_
  clear R7
  by_cases h0 : d = 0
  · subst h0
    have HX := Lib.hid (HX.out.trans (if_pos rfl))
    have HE := Lib.hid (HE.out.trans (if_pos rfl))
    go_wp2_with (first
      | (go_at_call 63; (refine (doneS hr7 0 HD.out).mono ?_); rintro e8 w8 ⟨rfl, hd8⟩; have R8 := Lib.hid (R7h.out.new (hd8.below _)); have R08 := Lib.hid (R07.out.new (hd8.below _)); have B8 := Lib.hid (B7.out.trans (hd8.below _)))
      | (refine wp_load_part rfl 63 _ rfl _ rfl (rtL ⟨v, padR p, padR q⟩).toArray (R8.out.part [] [] (rtL ⟨v, padR p, padR q⟩) (by simp) 0 rfl _ rfl) _ Try.underlying63 rfl (sizeR _ HOK.out) ?_)
      | (refine wp_store_part rfl 63 _ _ rfl w.heap.size 0 _ rfl rfl _ _ R08.out.out (sizeR _ HOK.out) (by rw [List.size_toArray, List.size_toArray, rtL_length _ HOK.out, rtL_length _ zeroR_ok]; omega) (rtL_one _) ?_))
    rw [splice_all _ _ ((rtL_length _ zeroR_ok).trans (rtL_length _ HOK.out).symm)]
    exact bodyPost_ret (results_rt rfl _ _ w.heap.size 63 ⟨v, padR p, padR q⟩ rfl ⟨⟨setRow_heap _ _ _ _ _ _ R08.out.out⟩, HOK.out⟩) rfl ⟨by rw [HX.out, HE.out]; rfl, below_setRow B8.out (by omega) _⟩
  · have hne : ((d : Int) != 0) = true := by rw [bne_iff_ne]; omega
    have HX := Lib.hid (HX.out.trans (if_neg h0))
    have HE := Lib.hid (HE.out.trans (if_neg h0))
    clear h0
    go_wp2_with (first
      | (go_at_call 63; (refine (doneS hr7 d HD.out).mono ?_); rintro e8 w8 ⟨rfl, hd8⟩; have R08 := Lib.hid (R07.out.new (hd8.below _)); have B8 := Lib.hid (B7.out.trans (hd8.below _)))
      | (refine wp_store_part rfl 63 _ _ rfl w.heap.size 0 Try.zeroCells63 rfl rfl _ _ R08.out.out (by rw [zeroCellsR]; exact sizeR _ zeroR_ok) (by rw [zeroCellsR, List.size_toArray, rtL_length _ zeroR_ok]; omega) (by rw [zeroCellsR]; exact rtL_one _) ?_))
    rw [zeroCellsR, splice_all _ _ rfl]
    exact bodyPost_ret (results_rt rfl _ _ w.heap.size 63 zeroR rfl ⟨⟨setRow_heap _ _ _ _ _ _ R08.out.out⟩, zeroR_ok⟩) rfl ⟨by rw [HX.out, HE.out]; rfl, below_setRow B8.out (by omega) _⟩
/-- what DecodeRoot answers -/
def decR (n : Int) (P : List UInt8) : Nat × Rt :=
  if wideF n ≠ 0 then (1, zeroR) else if P.length = 8 + 2 * n.toNat then (0, ⟨beN (P.take 8), padR ((P.drop 8).take n.toNat), padR ((P.drop (8 + n.toNat)).take n.toNat)⟩) else (3, zeroR)
theorem rtS_of (P : List UInt8) (k : Nat) : ∃ v a1 e1 p a2 e2 q a3 e3, RtS P k v a1 e1 p a2 e2 q a3 e3 := ⟨_, _, _, _, _, _, _, _, _, rfl, rfl, rfl⟩
theorem rtS_yes (P : List UInt8) (k : Nat) (h : P.length = 8 + 2 * k) : RtS P k (beN (P.take 8)) 8 0 ((P.drop 8).take k) (8 + k) 0 ((P.drop (8 + k)).take k) (8 + k + k) 0 := by
  refine ⟨?_, ?_, ?_⟩
  · unfold WireMath.numS; rw [if_neg (by simp), if_neg (by omega)]; rfl
  · unfold WireMath.rawS; rw [if_neg (by simp), if_neg (by omega), if_neg (by omega)]; rfl
  · unfold WireMath.rawS; rw [if_neg (by simp), if_neg (by omega), if_neg (by omega)]; rfl
theorem num_le (P : List UInt8) (a e n : Nat) (h : a ≤ P.length) : (numS P a e n).2.1 ≤ P.length := by
  unfold WireMath.numS; split
  · exact h
  · split
    · exact h
    · simp only; omega
theorem raw_le (P : List UInt8) (a e : Nat) (n : Nat) (h : a ≤ P.length) : (rawS P a e n).2.1 ≤ P.length := by
  unfold WireMath.rawS; split
  · exact h
  · split
    · exact h
    · split
      · exact h
      · simp only; omega
theorem rtS_no (P : List UInt8) (k v a1 e1 : Nat) (p : List UInt8) (a2 e2 : Nat) (q : List UInt8) (a3 e3 : Nat) (hk : 0 < k) (hS : RtS P k v a1 e1 p a2 e2 q a3 e3) (h : P.length ≠ 8 + 2 * k) : doneE P a3 e3 = 3 := by
  have ⟨s1, s2, s3⟩ := hS
  unfold WireMath.numS at s1
  rw [if_neg (by simp)] at s1
  split at s1
  · injection s1 with _ s1; injection s1 with h1 h2
    subst h1 h2
    unfold WireMath.rawS at s2
    rw [if_pos (by simp)] at s2
    injection s2 with _ s2; injection s2 with h1 h2
    subst h1 h2
    unfold WireMath.rawS at s3
    rw [if_pos (by simp)] at s3
    injection s3 with _ s3; injection s3 with h1 h2
    subst h1 h2
    unfold doneE; rw [if_pos (.inl (by simp))]
  · rename_i hlen
    injection s1 with _ s1; injection s1 with h1 h2
    subst h1 h2
    unfold WireMath.rawS at s2
    rw [if_neg (by simp), if_neg (by omega)] at s2
    split at s2
    · injection s2 with _ s2; injection s2 with h1 h2
      subst h1 h2
      unfold WireMath.rawS at s3
      rw [if_pos (by simp)] at s3
      injection s3 with _ s3; injection s3 with h1 h2
      subst h1 h2
      unfold doneE; rw [if_pos (.inl (by simp))]
    · rename_i hlen2
      injection s2 with _ s2; injection s2 with h1 h2
      subst h1 h2
      unfold WireMath.rawS at s3
      rw [if_neg (by simp), if_neg (by omega)] at s3
      split at s3
      · injection s3 with _ s3; injection s3 with h1 h2
        subst h1 h2
        unfold doneE; rw [if_pos (.inl (by simp))]
      · rename_i hlen3
        injection s3 with _ s3; injection s3 with h1 h2
        subst h1 h2
        unfold doneE; rw [if_neg (by simp at hlen hlen2 hlen3 ⊢; omega)]
set_option maxRecDepth 100000 in
theorem decodeRoot_wide (m : Int) (hw : wideF m = 1) (A : Option Addr) (n c : Nat) (w : World) :
    Calls Try.prog 35 #[.int .i64 m, .slice A n c] w fun e w' => e = .returned (.tuple #[.agg (rtL zeroR).toArray, .int .i64 1]) ∧ Below w.heap.size w w' := by
  have HW := Lib.hid (show (wideF m : Int) = 1 by rw [hw]; rfl)
  have R0 := Lib.hid (Row.fresh w w.heap.size rfl 63 (rtL zeroR) _ rfl)
  have B0 := Lib.hid (below_alloc1 (Below.refl w.heap.size w) (Nat.le_refl _) (.cells (rtL zeroR).toArray 63))
  clear hw
  go_enter Try.func35, Try.ntmps35
  go_wp2_with (first
    | (go_at_call 76; (with_reducible refine (ewideN _ 1 HW.out _).mono ?_); rintro e1 w1 ⟨rfl, rfl⟩)
    | (refine wp_store_part rfl 63 _ _ rfl w.heap.size 0 Try.zeroCells63 rfl rfl _ _ R0.out.out (by rw [zeroCellsR]; exact sizeR _ zeroR_ok) (by rw [zeroCellsR, List.size_toArray, rtL_length _ zeroR_ok]; omega) (by rw [zeroCellsR]; exact rtL_one _) ?_))
  rw [zeroCellsR, splice_all _ _ rfl]
  exact bodyPost_ret (results_rt rfl _ _ w.heap.size 63 zeroR rfl ⟨⟨setRow_heap _ _ _ _ _ _ R0.out.out⟩, zeroR_ok⟩) rfl ⟨rfl, below_setRow B0.out (by omega) _⟩
/-- DecodeRoot -/
theorem decodeRoot_calls (m : Int) (A : Option Addr) (P : List UInt8) (n c : Nat) (w : World) (hp : RB w A c P) (hn : n = P.length) (hl : P.length ≤ 140737488355328) (e : Nat) (X : Rt) (hX : decR m P = (e, X)) :
    Calls Try.prog 35 #[.int .i64 m, .slice A n c] w fun r w' => r = .returned (.tuple #[.agg (rtL X).toArray, .int .i64 e]) ∧ Below w.heap.size w w' := by
  unfold decR at hX
  by_cases hw : wideF m = 0
  · rw [if_neg (by omega)] at hX
    have hk : 1 ≤ m ∧ m ≤ 32 := by unfold wideF at hw; split at hw <;> omega
    obtain ⟨k, rfl⟩ := Int.eq_ofNat_of_zero_le (show 0 ≤ m by omega)
    rw [Int.toNat_natCast] at hX
    by_cases h : P.length = 8 + 2 * k
    · rw [if_pos h] at hX
      injection hX with h1 h2
      subst h1 h2
      exact decodeRoot_ok k (by omega) (by omega) A P n c w hp hn hl _ _ _ _ _ _ _ _ _ (rtS_yes P k h) 0 (by unfold doneE; rw [if_pos (.inr (by omega))]) _ _ rfl rfl
    · rw [if_neg h] at hX
      injection hX with h1 h2
      subst h1 h2
      obtain ⟨v, a1, e1, p, a2, e2, q, a3, e3, hS⟩ := rtS_of P k
      exact decodeRoot_ok k (by omega) (by omega) A P n c w hp hn hl _ _ _ _ _ _ _ _ _ hS 3 (rtS_no P k _ _ _ _ _ _ _ _ _ (by omega) hS h) _ _ rfl rfl
  · have h1 : wideF m = 1 := by unfold wideF at hw ⊢; split at hw <;> simp_all
    rw [if_pos hw] at hX
    injection hX with h2 h3
    subst h2 h3
    exact decodeRoot_wide m h1 A n c w
end Go.Proofs.Ytelecdncdaepnaa
