/- Things of the theorem through layer 1: lists of them as arguments; lay and took. -/
import Derived.Test.YtdpmalegpjimfabThingMath
import Derived.Test.YtdpmalegpjimfabFrameWalk2
namespace Go.Proofs.Ytdpmalegpjimfab
open Go.RowKit
open WireMath (numS beN rawS blobS uvarS grpL uvarL wideL)

structure ThV where
  k : Int
  v : Nat
  A : Option Addr
  c : Nat
  P : List UInt8
structure ThOk (w : World) (o : ThV) : Prop where
  k : 0 ≤ o.k ∧ o.k ≤ 255
  v : o.v ≤ 18446744073709551615
  P : RB w o.A o.c o.P
structure Ths (w : World) (A : Option Addr) (l : List ThV) : Prop where
  out : ∀ i (h : i < l.length), ∃ a, A = some a ∧ w.cell? (a.add (i * 3)) = some (.int .u8 l[i].k) ∧ w.cell? (a.add (i * 3 + 1)) = some (.int .u64 l[i].v) ∧ w.cell? (a.add (i * 3 + 2)) = some (.slice l[i].A l[i].P.length l[i].c)
  ok : ∀ o ∈ l, ThOk w o
theorem ThOk.new {w w' : World} {o : ThV} (h : ThOk w o) (hb : Below w.heap.size w w') : ThOk w' o := ⟨h.k, h.v, h.P.new hb⟩
theorem Ths.new {w w' : World} {A : Option Addr} {l : List ThV} (h : Ths w A l) (hb : Below w.heap.size w w') : Ths w' A l := by
  refine ⟨fun i hi => ?_, fun o ho => (h.ok o ho).new hb⟩
  obtain ⟨a, ha, h0, h1, h2⟩ := h.out i hi
  have hc : ∀ j u, w.cell? (a.add j) = some u → w'.cell? (a.add j) = some u := fun j u hu => (hb.cell (World.block_lt_of_cell? w _ hu)).trans hu
  exact ⟨a, ha, hc _ _ h0, hc _ _ h1, hc _ _ h2⟩
theorem add_nextT (a : Addr) (k j : Nat) (hj : 0 < j) : (⟨(a.add k).block, (a.add k).off + j, none⟩ : Addr) = a.add (k + j) := by
  unfold Addr.add
  split <;> split <;> simp_all <;> omega
theorem Ths.at_ {w : World} {A : Option Addr} {l : List ThV} (h : Ths w A l) (i : Nat) (hi : i < l.length) : ∃ a o, A = some a ∧ l[i]? = some o ∧ o ∈ l ∧ ThOk w o ∧ w.cell? (a.add (i * 3)) = some (.int .u8 o.k) ∧ w.cell? ⟨(a.add (i * 3)).block, (a.add (i * 3)).off + 1, none⟩ = some (.int .u64 o.v) ∧ w.cell? ⟨(a.add (i * 3)).block, (a.add (i * 3)).off + 2, none⟩ = some (.slice o.A o.P.length o.c) := by
  obtain ⟨a, ha, h0, h1, h2⟩ := h.out i hi
  refine ⟨a, l[i], ha, List.getElem?_eq_getElem hi, List.getElem_mem hi, h.ok _ (List.getElem_mem hi), h0, ?_, ?_⟩
  · rw [add_nextT _ _ _ (by decide)]; exact h1
  · rw [add_nextT _ _ _ (by decide)]; exact h2
def bulkT (l : List ThV) : Nat := (l.map fun f => f.P.length + 4).sum
theorem bulkT_mem {l : List ThV} {f : ThV} (h : f ∈ l) : f.P.length + 4 ≤ bulkT l := by
  induction l with
  | nil => simp at h
  | cons x l ih =>
    simp only [bulkT, List.map_cons, List.sum_cons]
    rcases List.mem_cons.1 h with rfl | h
    · omega
    · have := ih h
      simp only [bulkT] at this
      omega
theorem bulkT_len (l : List ThV) : l.length ≤ bulkT l := by
  induction l with
  | nil => simp
  | cons x l ih => simp only [bulkT, List.map_cons, List.sum_cons, List.length_cons] at ih ⊢; omega
theorem bulkT_take (l : List ThV) (i : Nat) : bulkT (l.take i) ≤ bulkT l := by
  have h := congrArg bulkT (List.take_append_drop i l)
  simp only [bulkT, List.map_append, List.sum_append] at h ⊢
  omega
/-- the kind of a thing, as a script has it -/
def kindT (k : Int) : Int := if k ≤ 5 then k + 1 else 7
theorem kindT_range (k : Int) (h : 0 ≤ k) : 1 ≤ kindT k ∧ kindT k ≤ 7 := by unfold kindT; split <;> omega
def laidT (l : List ThV) : List UInt8 := l.flatMap fun o => laidL (kindT o.k) o.v o.P
theorem laidT_snoc (l : List ThV) (i : Nat) (o : ThV) (h : l[i]? = some o) : laidT (l.take (i + 1)) = laidT (l.take i) ++ laidL (kindT o.k) o.v o.P := by
  obtain ⟨hi, rfl⟩ := List.getElem?_eq_some_iff.1 h
  unfold laidT
  rw [List.take_succ_eq_append_getElem hi, List.flatMap_append, List.flatMap_cons, List.flatMap_nil, List.append_nil]
theorem laidT_le (l : List ThV) : (laidT l).length ≤ 3 * bulkT l := by
  induction l with
  | nil => simp [laidT]
  | cons o l ih =>
    have := laidL_length (kindT o.k) o.v o.P
    simp only [laidT, bulkT, List.flatMap_cons, List.length_append, List.map_cons, List.sum_cons] at ih ⊢
    omega
theorem drop_laidT (X : List UInt8) (l : List ThV) (j : Nat) (o : ThV) (h : l[j]? = some o) : (X ++ laidT l).drop (X ++ laidT (l.take j)).length = laidL (kindT o.k) o.v o.P ++ laidT (l.drop (j + 1)) := by
  obtain ⟨hi, rfl⟩ := List.getElem?_eq_some_iff.1 h
  have e : l = l.take j ++ (l[j] :: l.drop (j + 1)) := by rw [← List.drop_eq_getElem_cons hi, List.take_append_drop]
  have e2 : laidT l = laidT (l.take j) ++ (laidL (kindT l[j].k) l[j].v l[j].P ++ laidT (l.drop (j + 1))) := by
    conv => lhs; rw [e]
    unfold laidT
    rw [List.flatMap_append, List.flatMap_cons]
  rw [e2, ← List.append_assoc X, List.drop_left]
theorem kindsT (k : Int) : k = 0 ∨ k = 1 ∨ k = 2 ∨ k = 3 ∨ k = 4 ∨ k = 5 ∨ ((k == 0) = false ∧ (k == 1) = false ∧ (k == 2) = false ∧ (k == 3) = false ∧ (k == 4) = false ∧ (k == 5) = false) := by
  simp only [beq_eq_false_iff_ne]; omega
theorem kindT_more (k : Int) (h0 : 0 ≤ k) (h : (k == 0) = false ∧ (k == 1) = false ∧ (k == 2) = false ∧ (k == 3) = false ∧ (k == 4) = false ∧ (k == 5) = false) : kindT k = 7 := by
  simp only [beq_eq_false_iff_ne] at h
  unfold kindT; rw [if_neg (by omega)]

set_option maxRecDepth 100000 in
theorem toplay_calls {w : World} {F : Nat → Prop} {b : Nat} {p : List UInt8} (h : WrF w F b p) (k : Int) (hk0 : 0 ≤ k) (v : Nat) (A : Option Addr) (P : List UInt8) (m c : Nat) (q : List UInt8) (hq : p ++ laidL (kindT k) v P = q) (hm : m = P.length) (hv : v ≤ 18446744073709551615) (hP : RB w A c P) (hf : Free F A P) (hl : p.length + P.length + 10 ≤ 140737488355328) :
    Calls Try.prog 46 #[.pointer (some ⟨b, 0, none⟩), .agg #[.int .u8 k, .int .u64 v, .slice A m c]] w fun e w' => ∃ F', e = .returned (.tuple #[]) ∧ WrF w' F' b q ∧ Step w w' F F' := by
  subst hm
  have HB := Lib.hid (below_alloc1 (Below.refl w.heap.size w) (Nat.le_refl _) (.cells #[.int .u8 k, .int .u64 v, .slice A P.length c] 88))
  have HW := Lib.hid (h.new HB.out)
  have HP := Lib.hid (hP.new HB.out)
  have hl8 : p.length + 8 ≤ 140737488355328 := by omega
  have hl10 : p.length + 10 ≤ 140737488355328 := by omega
  rcases kindsT k with rfl | rfl | rfl | rfl | rfl | rfl | hk
  · have HQ := Lib.hid (show p ++ [UInt8.ofNat (v % 256)] = q by rw [← hq, ← wide1]; rfl)
    clear hq
    go_enter Try.func46, Try.ntmps46
    go_wp2_with (go_at_call 58; (with_reducible refine (u8F HW.out q (v % 256) ((v : Int) % 256) (by omega) HQ.out (by omega) hl8).mono ?_); rintro e1 w1 ⟨F1, rfl, hw1, hs1⟩)
    go_end0
    exact ⟨F1, rfl, hw1, Step.ahead HB.out hs1⟩
  · have HQ := Lib.hid (show p ++ wideL (v % 65536) 2 = q by rw [← hq]; rfl)
    clear hq
    go_enter Try.func46, Try.ntmps46
    go_wp2_with (go_at_call 45; (with_reducible refine (u16F HW.out q (v % 65536) (IntKind.u16.wrap v) (wrap16 v) HQ.out (by omega) hl8).mono ?_); rintro e1 w1 ⟨F1, rfl, hw1, hs1⟩)
    go_end0
    exact ⟨F1, rfl, hw1, Step.ahead HB.out hs1⟩
  · have HQ := Lib.hid (show p ++ wideL (v % 4294967296) 4 = q by rw [← hq]; rfl)
    clear hq
    go_enter Try.func46, Try.ntmps46
    go_wp2_with (go_at_call 59; (with_reducible refine (u32F HW.out q (v % 4294967296) ((v : Int) % 4294967296) (by omega) HQ.out (by omega) hl8).mono ?_); rintro e1 w1 ⟨F1, rfl, hw1, hs1⟩)
    go_end0
    exact ⟨F1, rfl, hw1, Step.ahead HB.out hs1⟩
  · have HQ := Lib.hid (show p ++ wideL v 8 = q by rw [← hq]; rfl)
    clear hq
    go_enter Try.func46, Try.ntmps46
    go_wp2_with (go_at_call 60; (with_reducible refine (u64F HW.out q v _ rfl HQ.out hv hl8).mono ?_); rintro e1 w1 ⟨F1, rfl, hw1, hs1⟩)
    go_end0
    exact ⟨F1, rfl, hw1, Step.ahead HB.out hs1⟩
  · have HQ := Lib.hid (show p ++ uvarL v = q by rw [← hq]; rfl)
    clear hq
    go_enter Try.func46, Try.ntmps46
    go_wp2_with (go_at_call 55; (with_reducible refine (uvarFF HW.out q v _ rfl HQ.out hv hl10).mono ?_); rintro e1 w1 ⟨F1, rfl, hw1, hs1⟩)
    go_end0
    exact ⟨F1, rfl, hw1, Step.ahead HB.out hs1⟩
  · have HQ := Lib.hid (show p ++ P = q by rw [← hq]; rfl)
    clear hq
    go_enter Try.func46, Try.ntmps46
    go_wp2_with (go_at_call 61; (with_reducible refine (rawF HW.out A P q P.length c HQ.out HP.out rfl (by omega)).mono ?_); rintro e1 w1 ⟨F1, rfl, hw1, hs1⟩)
    go_end0
    exact ⟨F1, rfl, hw1, Step.ahead HB.out hs1⟩
  · have HQ := Lib.hid (show p ++ (uvarL P.length ++ P) = q by rw [← hq, kindT_more k hk0 hk]; rfl)
    obtain ⟨b0, b1, b2, b3, b4, b5⟩ := hk
    clear hq
    go_enter Try.func46, Try.ntmps46
    go_wp2_with (go_at_call 62; (with_reducible refine (blobF HW.out A P q P.length c HQ.out HP.out hf rfl hl).mono ?_); rintro e1 w1 ⟨F1, rfl, hw1, hs1⟩)
    go_end0
    exact ⟨F1, rfl, hw1, Step.ahead HB.out hs1⟩
theorem topsame_calls (A B : Option Addr) (p q : List UInt8) (n m c d : Nat) (w : World) (hp : RB w A c p) (hq : RB w B d q) (hn : n = p.length) (hm : m = q.length) :
    Calls Try.prog 37 #[.slice A n c, .slice B m d] w fun e w' => e = .returned (.bool (p == q)) ∧ w = w' := by
  have h1 := run_str w A n c p hp hn
  have h2 := run_str w B m d q hq hm
  have hs := Lib.hid (strOf_beq p q)
  clear hn hm
  generalize strOf p = x at *
  generalize strOf q = y at *
  go_enter Try.func37, Try.ntmps37
  go_wp2
  go_ret
  exact ⟨ret_bool hs.out, rfl⟩
theorem Trio.keepG {w w' : World} {b c : Nat} {x y z : Value} (h : Trio w b x y z) (hg : w.grownBy w' (some c)) (hb : b ≠ c) : Trio w' b x y z := h.keep (hg.block b h.lt (fun e => hb (Option.some.inj e)))
/-- what took leaves -/
structure ThTook (w w' : World) (F : Nat → Prop) (b : Nat) (P : List UInt8) (at_ : Nat) (k : Int) (v : Nat) (Q : List UInt8) (t : Took) (r : Bool) : Prop where
  yes : t = tookOf (kindT k) v Q at_ → r = true
  rd : Rd w' F b P t.at_ t.e
  step : Step w w' F F

set_option maxHeartbeats 400000 in
set_option maxRecDepth 100000 in
theorem toptook_calls (F : Nat → Prop) (b : Nat) (P : List UInt8) (at_ e : Nat) (k : Int) (hk0 : 0 ≤ k) (v : Nat) (A : Option Addr) (Q : List UInt8) (m c : Nat) (w : World) (hr : Rd w F b P at_ e) (hl : P.length ≤ 140737488355328) (hQ : RB w A c Q) (hf : Free F A Q) (hm : m = Q.length) (hl3 : Q.length ≤ 9223372036854775807) (t : Took) (ht : takeS P at_ e (kindT k) Q.length = t) :
    Calls Try.prog 48 #[.pointer (some ⟨b, 0, none⟩), .agg #[.int .u8 k, .int .u64 v, .slice A m c]] w fun e' w' => ∃ r, e' = .returned (.bool r) ∧ ThTook w w' F b P at_ k v Q t r := by
  subst hm
  have HB := Lib.hid (below_alloc1 (Below.refl w.heap.size w) (Nat.le_refl _) (.cells #[.int .u8 k, .int .u64 v, .slice A Q.length c] 88))
  have HR := Lib.hid (hr.new HB.out)
  have HF := Lib.hid hr.lo
  have HT := Lib.hid (Trio.fresh w w.heap.size rfl (.int .u8 k) (.int .u64 v) (.slice A Q.length c) 88)
  have HNE : Hid (w.heap.size ≠ b) := Lib.hid (by have := hr.bLt; omega)
  have HQ := Lib.hid (hQ.new HB.out)
  have hl2 : P.length ≤ 9223372036854775807 := by omega
  have d0 := HT.out.c0
  have d1 := HT.out.c1
  have d2 := HT.out.c2
  rcases kindsT k with rfl | rfl | rfl | rfl | rfl | rfl | hk
  · have hx : takeS P at_ e 1 Q.length = ⟨(numS P at_ e 1).1, [], (numS P at_ e 1).2.1, (numS P at_ e 1).2.2⟩ := rfl
    have hc := fun w' (h : Rd w' F b P at_ e) => ru8_calls F b P at_ e w' h hl2
    generalize numS P at_ e 1 = r at *
    obtain ⟨x, a2, e2⟩ := r
    have HC := Lib.hid hc
    have hx2 := ht.symm.trans hx
    clear hc hx ht
    subst hx2
    go_enter Try.func48, Try.ntmps48
    go_wp2
    go_region_held3 (fun w' => w'.cell? ⟨w.heap.size, 1, none⟩ = some (.int .u64 v)) (go_keep) (first
      | (go_at_call 49; go_loud (with_reducible refine (HC.out _ (HR.out.new (below_drew _ _))).mono ?_); rintro e1 w1 ⟨rfl, hr1, hg1⟩; have d1 := (HT.out.drew.keepG hg1 HNE.out).c1))
    go_wp2
    go_ret
    refine ⟨_, rfl, fun h => ?_, hr1, Step.ahead (HB.out.drew) (Step.of_grown hg1 HF.out)⟩
    injection h with h
    have e9 : cutN 1 v = v % 256 := rfl
    rw [if_pos (by decide), show kindT 0 = 1 from rfl, e9] at h
    rw [beq_iff_eq, IntKind.wrap_u8]; omega
  · have hx : takeS P at_ e 2 Q.length = ⟨(numS P at_ e 2).1, [], (numS P at_ e 2).2.1, (numS P at_ e 2).2.2⟩ := rfl
    have hc := fun w' (h : Rd w' F b P at_ e) => ru16_calls F b P at_ e w' h hl2
    generalize numS P at_ e 2 = r at *
    obtain ⟨x, a2, e2⟩ := r
    have HC := Lib.hid hc
    have hx2 := ht.symm.trans hx
    clear hc hx ht
    subst hx2
    go_enter Try.func48, Try.ntmps48
    go_wp2
    go_region_held3 (fun w' => w'.cell? ⟨w.heap.size, 1, none⟩ = some (.int .u64 v)) (go_keep) (first
      | (go_at_call 47; go_loud (with_reducible refine (HC.out _ (HR.out.new (below_drew _ _))).mono ?_); rintro e1 w1 ⟨rfl, hr1, hg1⟩; have d1 := (HT.out.drew.keepG hg1 HNE.out).c1))
    go_wp2
    go_ret
    refine ⟨_, rfl, fun h => ?_, hr1, Step.ahead (HB.out.drew) (Step.of_grown hg1 HF.out)⟩
    injection h with h
    have e9 : cutN 2 v = v % 65536 := rfl
    rw [if_pos (by decide), show kindT 1 = 2 from rfl, e9] at h
    rw [beq_iff_eq, IntKind.wrap_u16]; omega
  · have hx : takeS P at_ e 3 Q.length = ⟨(numS P at_ e 4).1, [], (numS P at_ e 4).2.1, (numS P at_ e 4).2.2⟩ := rfl
    have hc := fun w' (h : Rd w' F b P at_ e) => ru32_calls F b P at_ e w' h hl2
    generalize numS P at_ e 4 = r at *
    obtain ⟨x, a2, e2⟩ := r
    have HC := Lib.hid hc
    have hx2 := ht.symm.trans hx
    clear hc hx ht
    subst hx2
    go_enter Try.func48, Try.ntmps48
    go_wp2
    go_region_held3 (fun w' => w'.cell? ⟨w.heap.size, 1, none⟩ = some (.int .u64 v)) (go_keep) (first
      | (go_at_call 50; go_loud (with_reducible refine (HC.out _ (HR.out.new (below_drew _ _))).mono ?_); rintro e1 w1 ⟨rfl, hr1, hg1⟩; have d1 := (HT.out.drew.keepG hg1 HNE.out).c1))
    go_wp2
    go_ret
    refine ⟨_, rfl, fun h => ?_, hr1, Step.ahead (HB.out.drew) (Step.of_grown hg1 HF.out)⟩
    injection h with h
    have e9 : cutN 3 v = v % 4294967296 := rfl
    rw [if_pos (by decide), show kindT 2 = 3 from rfl, e9] at h
    rw [beq_iff_eq, IntKind.wrap_u32]; omega
  · have hx : takeS P at_ e 4 Q.length = ⟨(numS P at_ e 8).1, [], (numS P at_ e 8).2.1, (numS P at_ e 8).2.2⟩ := rfl
    have hc := fun w' (h : Rd w' F b P at_ e) => ru64_calls F b P at_ e w' h hl2
    generalize numS P at_ e 8 = r at *
    obtain ⟨x, a2, e2⟩ := r
    have HC := Lib.hid hc
    have hx2 := ht.symm.trans hx
    clear hc hx ht
    subst hx2
    go_enter Try.func48, Try.ntmps48
    go_wp2
    go_region_held3 (fun w' => w'.cell? ⟨w.heap.size, 1, none⟩ = some (.int .u64 v)) (go_keep) (first
      | (go_at_call 51; go_loud (with_reducible refine (HC.out _ (HR.out.new (below_drew _ _))).mono ?_); rintro e1 w1 ⟨rfl, hr1, hg1⟩; have d1 := (HT.out.drew.keepG hg1 HNE.out).c1))
    go_wp2
    go_ret
    refine ⟨_, rfl, fun h => ?_, hr1, Step.ahead (HB.out.drew) (Step.of_grown hg1 HF.out)⟩
    injection h with h
    have e9 : cutN 4 v = v := rfl
    rw [if_pos (by decide), show kindT 3 = 4 from rfl, e9] at h
    rw [beq_iff_eq]; omega
  · have hx : takeS P at_ e 5 Q.length = ⟨(uvarS P at_ e).1, [], (uvarS P at_ e).2.1, (uvarS P at_ e).2.2⟩ := rfl
    have hc := fun w' (h : Rd w' F b P at_ e) => ruvar_calls F b P at_ e w' h hl2
    generalize uvarS P at_ e = r at *
    obtain ⟨x, a2, e2⟩ := r
    have HC := Lib.hid hc
    have hx2 := ht.symm.trans hx
    clear hc hx ht
    subst hx2
    go_enter Try.func48, Try.ntmps48
    go_wp2
    go_region_held3 (fun w' => w'.cell? ⟨w.heap.size, 1, none⟩ = some (.int .u64 v)) (go_keep) (first
      | (go_at_call 56; go_loud (with_reducible refine (HC.out _ (HR.out.new (below_drew _ _))).mono ?_); rintro e1 w1 ⟨rfl, hr1, hg1⟩; have d1 := (HT.out.drew.keepG hg1 HNE.out).c1))
    go_wp2
    go_ret
    refine ⟨_, rfl, fun h => ?_, hr1, Step.ahead (HB.out.drew) (Step.of_grown hg1 HF.out)⟩
    injection h with h
    have e9 : cutN 5 v = v := rfl
    rw [if_pos (by decide), show kindT 4 = 5 from rfl, e9] at h
    rw [beq_iff_eq]; omega
  · have hx : takeS P at_ e 6 Q.length = ⟨0, (rawS P at_ e Q.length).1, (rawS P at_ e Q.length).2.1, (rawS P at_ e Q.length).2.2⟩ := rfl
    have HK := Lib.hid (show kindT 5 = 6 from rfl)
    have hc := fun w' (h : Rd w' F b P at_ e) => rraw_calls F b P at_ e Q.length w' h hl (by omega)
    generalize rawS P at_ e Q.length = r at *
    obtain ⟨x, a2, e2⟩ := r
    have HC := Lib.hid hc
    have hx2 := ht.symm.trans hx
    clear hc hx ht
    subst hx2
    go_enter Try.func48, Try.ntmps48
    go_wp2
    go_region_held3 (fun w' => w'.cell? ⟨w.heap.size, 2, none⟩ = some (.slice A Q.length c)) (go_keep) (first
      | (go_at_call 44; go_loud (with_reducible refine (HC.out _ (HR.out.new (below_drew _ _))).mono ?_); rintro e1 w1 ⟨A1, c1, rfl, hg1⟩; have HD1 := Lib.hid (HT.out.drew.keepG hg1.grown HNE.out); have HQ1 := Lib.hid ((HQ.out.new (below_drew _ _)).step (Step.of_grown hg1.grown HF.out) hf); have d2 := HD1.out.c2)
      | (go_at_call 37; go_loud (with_reducible refine (topsame_calls A1 A x Q x.length Q.length c1 c _ hg1.own.rb HQ1.out rfl rfl).mono ?_); rintro e3 w3 ⟨rfl, rfl⟩; have d2 := HD1.out.c2))
    go_wp2
    go_ret
    refine ⟨_, rfl, fun h => ?_, hg1.rd, Step.ahead (HB.out.drew) (Step.of_grown hg1.grown HF.out)⟩
    injection h with h h2
    rw [HK.out, if_neg (by decide)] at h2
    rw [h2, beq_self_eq_true]
  · have hx : takeS P at_ e 7 Q.length = ⟨0, (blobS P at_ e Q.length).1, (blobS P at_ e Q.length).2.1, (blobS P at_ e Q.length).2.2⟩ := rfl
    rw [kindT_more k hk0 hk] at ht
    have HK := Lib.hid (kindT_more k hk0 hk)
    obtain ⟨b0, b1, b2, b3, b4, b5⟩ := hk
    have hc := fun w' (h : Rd w' F b P at_ e) => rblob_calls F b P at_ e Q.length w' h hl (by omega)
    generalize blobS P at_ e Q.length = r at *
    obtain ⟨x, a2, e2⟩ := r
    have HC := Lib.hid hc
    have hx2 := ht.symm.trans hx
    clear hc hx ht
    subst hx2
    go_enter Try.func48, Try.ntmps48
    go_wp2
    go_region_held3 (fun w' => w'.cell? ⟨w.heap.size, 2, none⟩ = some (.slice A Q.length c)) (go_keep) (first
      | (go_at_call 63; go_loud (with_reducible refine (HC.out _ (HR.out.new (below_drew _ _))).mono ?_); rintro e1 w1 ⟨A1, c1, rfl, hg1⟩; have HD1 := Lib.hid (HT.out.drew.keepG hg1.grown HNE.out); have HQ1 := Lib.hid ((HQ.out.new (below_drew _ _)).step (Step.of_grown hg1.grown HF.out) hf); have d2 := HD1.out.c2)
      | (go_at_call 37; go_loud (with_reducible refine (topsame_calls A1 A x Q x.length Q.length c1 c _ hg1.own.rb HQ1.out rfl rfl).mono ?_); rintro e3 w3 ⟨rfl, rfl⟩; have d2 := HD1.out.c2))
    go_wp2
    go_ret
    refine ⟨_, rfl, fun h => ?_, hg1.rd, Step.ahead (HB.out.drew) (Step.of_grown hg1.grown HF.out)⟩
    injection h with h h2
    rw [HK.out, if_neg (by decide)] at h2
    rw [h2, beq_self_eq_true]
end Go.Proofs.Ytdpmalegpjimfab
