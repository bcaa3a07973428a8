import Derived.Test.YtlcbjjgmkllceaaQFramePays
import Derived.Test.YtlcbjjgmkllceaaQFrameNexts
import Derived.Test.YtlcbjjgmkllceaaQSpareWalk
import Derived.Test.YtlcbjjgmkllceaaQBag
import Derived.Deep.RegionHeld3
import Derived.Deep.DrawnRows
/- FrameKeeps: scans. -/
namespace Go.Proofs.Ytlcbjjgmkllceaa
open Go.RowKit
attribute [local go_sem ↓] Go.wp_at_zero Go.wp_at_succ

theorem mvFL {g base : Nat} {e : TypeId} {v : Value} {fs : List FrV} (hg : g < base) {w : World} (h : FL w base e v fs) : Mv (Wr1 g) (fun a => FL a base e v fs) w := ⟨h, fun a b hs h =>
  h.keep (fun k hk => hs.block k (h.vlt k hk).2 (by show ¬ k = g; have := (h.vlt k hk).1; omega)) (fun f hf k hk => hs.block k ((h.own f hf).at_base k hk).2 (by show ¬ k = g; have := ((h.own f hf).at_base k hk).1; omega))⟩
theorem mvPair {g b : Nat} {u v : Value} (hg : g < b) {w : World} (h : Pair w b u v) : Mv (Wr1 g) (fun a => Pair a b u v) w := ⟨h, fun a c hs h => h.keep (hs.block b h.lt (by show ¬ b = g; omega))⟩
theorem mv2Apt {lo hi : Nat} {hs : List Hd} {w : World} (h : Apt w lo hi hs) : Mv (Below hi) (fun a => Apt a lo hi hs) w := ⟨h, fun _ _ hb h => h.keep fun k _ hk => hb.block k hk⟩
theorem mv2FL {base : Nat} {e : TypeId} {v : Value} {fs : List FrV} {w : World} (h : FL w base e v fs) : Mv (Below w.heap.size) (fun a => FL a base e v fs) w := ⟨h, fun _ _ hb h2 =>
  h2.keep (fun k hk => hb.block k (h.vlt k hk).2) fun f hf k hk => hb.block k ((h.own f hf).at_base k hk).2⟩
theorem mv2Pair {b : Nat} {u v : Value} {w : World} (h : Pair w b u v) : Mv (Below w.heap.size) (fun a => Pair a b u v) w := ⟨h, fun _ _ hs h2 => h2.keep (hs.block b h.lt)⟩
theorem Apt.ofFL {w : World} {base hi : Nat} {e : TypeId} {v : Value} {fs : List FrV} (h : FL w base e v fs) (hu : ∀ f ∈ fs, ∀ k, (FrV.val f).ownBlock = some k → k < hi) (hl : ∀ f ∈ fs, (FrV.pay f).length + 90 ≤ 140737488355328) : Apt w base hi (fs.map hdOf) := by
  refine ⟨fun x hx => ?_, fun x hx => ?_, ?_, fun x hx => ?_⟩
  · obtain ⟨f, hf, rfl⟩ := List.mem_map.1 hx
    exact ⟨_, h.own f hf⟩
  · obtain ⟨f, hf, rfl⟩ := List.mem_map.1 hx
    exact hu f hf
  · exact List.pairwise_map.2 h.apart
  · obtain ⟨f, hf, rfl⟩ := List.mem_map.1 hx
    exact hl f hf
theorem below_lower {B B' : Nat} {w w' : World} (h : Below B w w') (hB : B' ≤ B) : Below B' w w' := ⟨h.os, h.tape, h.output, h.size, fun k hk => h.block k (by omega)⟩
theorem Apt.perm {w : World} {lo hi : Nat} {hs gs : List Hd} (h : Apt w lo hi hs) (p : hs.Perm gs) : Apt w lo hi gs :=
  ⟨fun x hx => h.own x (p.mem_iff.2 hx), fun x hx => h.lt x (p.mem_iff.2 hx), (p.pairwise_iff (fun h => apV.symm h)).1 h.apart, fun x hx => h.len x (p.mem_iff.2 hx)⟩
theorem perm3 {α : Type} (a b c : List α) : ((a ++ b) ++ c).Perm ((a ++ c) ++ b) := by
  rw [List.append_assoc, List.append_assoc]
  exact List.Perm.append_left a List.perm_append_comm
/-- lists in a literal's block -/
structure C3 (w : World) (K : Nat) (ys : List Hd) : Prop where
  at_ : ∀ (i : Nat) (y : Hd), ys[i]? = some y → w.cell? ((⟨K, 0, none⟩ : Addr).add i) = some y.val
theorem C3.fresh (w : World) (t : TypeId) (x y z : Hd) (k : Nat) (hk : w.heap.size = k) : C3 (w.alloc (.cells #[x.val, y.val, z.val] t)) k (([x] ++ [y]) ++ [z]) := by
  refine ⟨fun i u hu => ?_⟩
  have T := Tri.fresh w k hk x.val y.val z.val t (0, 0)
  have e : ∀ j, (⟨k, 0, none⟩ : Addr).add j = ⟨k, j, none⟩ := fun j => by unfold Addr.add; split <;> simp_all
  rw [e]
  match i, hu with
  | 0, hu => obtain rfl := Option.some.inj hu; exact T.c0
  | 1, hu => obtain rfl := Option.some.inj hu; exact T.c1
  | 2, hu => obtain rfl := Option.some.inj hu; exact T.c2
  | i + 3, hu => simp at hu
theorem C3.keep {w w' : World} {K : Nat} {ys : List Hd} (h : C3 w K ys) (hb : w'.heap[K]? = w.heap[K]?) : C3 w' K ys := ⟨fun i y hy => (World.cell?_of_block (a := (⟨K, 0, none⟩ : Addr).add i) (by rw [block_add]; exact hb)).trans (h.at_ i y hy)⟩
theorem next_pay (P : List UInt8) (at_ : Int) : (nextF P at_).payload.length ≤ P.length := by
  have key : ∀ x : Nx, nextF P at_ = x → x.payload.length ≤ P.length := by
    intro x hx
    unfold nextF at hx
    split at hx
    · subst hx; simp [noNx]
    · split at hx
      · subst hx; simp [noNx]
      · dsimp only at hx
        split at hx
        · subst hx; simp [noNx]
        · split at hx
          · subst hx
            simp only [List.length_take, List.length_drop]
            omega
          · subst hx; simp [noNx]
  exact key _ rfl
theorem scanTo_pay (P : List UInt8) : ∀ (f : Nat) (at_ : Int), ∀ q ∈ (scanTo f P at_).1, q.2.length ≤ P.length := by
  intro f
  induction f with
  | zero => intro at_ q hq; simp [scanTo] at hq
  | succ f ih =>
    intro at_ q hq
    rw [scanTo] at hq
    by_cases hk : (nextF P at_).kind = 1
    · rw [if_pos hk] at hq
      rcases List.mem_cons.1 hq with rfl | hq
      · exact next_pay P at_
      · exact ih _ q hq
    · rw [if_neg hk] at hq; simp at hq
theorem scanF_pay (P : List UInt8) (fs : List FrV) (h : frOf fs = (scanF P).1) : ∀ f ∈ fs, (FrV.pay f).length ≤ P.length := by
  intro f hf
  have : ((f.place, f.pay) : Nat × List UInt8) ∈ (scanF P).1 := by rw [← h]; exact List.mem_map.2 ⟨f, hf, rfl⟩
  exact scanTo_pay P _ _ _ this
theorem Apt.oneAt {w : World} {lo hi n c : Nat} {A : Option Addr} {p : List UInt8} (h : OB w lo 5 (.slice A n c) p) (hu : ∀ k, (Value.slice A n c).ownBlock = some k → k < hi) (hl : n + 90 ≤ 140737488355328) : Apt w lo hi [⟨A, n, c⟩] := by
  refine ⟨fun g hg => ?_, fun g hg k hk => ?_, List.pairwise_singleton _ _, fun g hg => ?_⟩ <;> obtain rfl := List.mem_singleton.1 hg
  · exact ⟨p, h⟩
  · exact hu k hk
  · exact hl
theorem FL.top {w : World} {base : Nat} {e : TypeId} {v : Value} {fs : List FrV} (h : FL w base e v fs) : ∀ f ∈ fs, ∀ k, (FrV.val f).ownBlock = some k → k < w.heap.size := fun f hf k hk => ((h.own f hf).at_base k hk).2
theorem OB.top {w : World} {base e : Nat} {v : Value} {p : List UInt8} (h : OB w base e v p) : ∀ k, v.ownBlock = some k → k < w.heap.size := fun k hk => (h.at_base k hk).2
theorem apartF (lo hi : Nat) (a : Option Addr) (hs : List Hd) (n c : Nat) (w : World) (h : Apt w lo hi hs) (hhi : hi ≤ w.heap.size) (hlo : lo ≤ w.heap.size) (hn : n = hs.length) (hc : ∀ (i : Nat) (x : Hd), hs[i]? = some x → ∃ b : Addr, a = some b ∧ w.cell? (b.add i) = some x.val ∧ (b.block < lo ∨ hi ≤ b.block)) (hl : hs.length ≤ 5100000000000) :
    Calls Try.prog 13 #[.slice a n c] w fun e w' => e = .returned (.bool true) ∧ Below lo w w' ∧ Step w w' (feet hs) (feet hs) := by
  have hP : ∃ P : Nat → List UInt8, ∀ (i : Nat) (x : Hd), hs[i]? = some x → OB w lo 5 x.val (P i) := by
    have : ∀ i : Nat, ∃ p : List UInt8, ∀ x : Hd, hs[i]? = some x → OB w lo 5 x.val p := by
      intro i
      cases he : hs[i]? with
      | none => exact ⟨[], fun x hx => by cases hx⟩
      | some y =>
        obtain ⟨p, hp⟩ := h.own y (List.mem_of_getElem? he)
        exact ⟨p, fun x hx => by obtain rfl := Option.some.inj hx; exact hp⟩
    exact ⟨fun i => (this i).choose, fun i x hx => (this i).choose_spec x hx⟩
  obtain ⟨P, hP⟩ := hP
  have HA : AP w lo w.heap.size a hs P := by
    refine ⟨fun i x hx => ?_, hP, fun i x k hx hk => Nat.lt_of_lt_of_le (h.lt x (List.mem_of_getElem? hx) k hk) hhi, fun i j x y hx hy hij => ?_, fun i x hx => h.len x (List.mem_of_getElem? hx)⟩
    · obtain ⟨b, e1, e2, e3⟩ := hc i x hx
      have hbl : b.block < w.heap.size := by have := World.block_lt_of_cell? w _ e2; rwa [block_add] at this
      refine ⟨b, e1, e2, hbl, fun j y hy e => ?_⟩
      have h1 := h.lt y (List.mem_of_getElem? hy) _ e
      have h2 := ((hP j y hy).at_base _ e).1
      omega
    · obtain ⟨hi', rfl⟩ := List.getElem?_eq_some_iff.1 hx
      obtain ⟨hj', rfl⟩ := List.getElem?_eq_some_iff.1 hy
      rcases Nat.lt_or_gt_of_ne hij with h1 | h1
      · exact List.pairwise_iff_getElem.1 h.apart i j hi' hj' h1
      · exact (List.pairwise_iff_getElem.1 h.apart j i hj' hi' h1).symm
  refine (apart_calls lo a hs P n c w HA hlo hn hl).mono fun e w' ⟨h1, _, h3⟩ => ⟨h1, h3.below hlo ?_, h3⟩
  rintro k ⟨i, x, hx, hk⟩
  exact ((hP i x hx).at_base k hk).1
set_option maxHeartbeats 1600000 in
set_option maxRecDepth 100000 in
theorem scans_calls (A : Option Addr) (P : List UInt8) (n c : Nat) (w : World) (hp : RB w A c P) (hn : n = P.length) (hl : P.length ≤ 1048576) :
    Calls Try.prog 14 #[.slice A n c] w fun e w' => e = .returned (.bool true) ∧ Below w.heap.size w w' := by
  subst hn
  have h1 := Lib.hid (fun w' A' c' (h : RB w' A' c' P) => scan_calls A' P P.length c' w' h rfl (by omega))
  have h2 := Lib.hid (fun w' A' c' (h : RB w' A' c' P) => docScan_calls A' P P.length c' w' h rfl (by omega))
  have h3 := Lib.hid (fun w' A' c' (h : RB w' A' c' P) => next_calls A' P P.length c' 0 (by decide) w' h rfl (by omega))
  have h4 := Lib.hid (fun w' A' c' (h : RB w' A' c' P) => docNext_calls A' P P.length c' 0 (by decide) w' h rfl (by omega))
  have hol : (over P).length = P.length := over_length P
  have h5 := Lib.hid (fun w' A' c' (h : RB w' A' c' (over P)) => scan_calls A' (over P) P.length c' w' h hol.symm (by omega))
  have h6 := Lib.hid (fun w' A' c' (h : RB w' A' c' (over P)) => docScan_calls A' (over P) P.length c' w' h hol.symm (by omega))
  have hle := scanF_length P
  have hle2 := scanF_length (over P)
  rw [hol] at hle2
  have HOL := Lib.hid hol
  clear hol
  have HXL : Hid ((nextF P 0).payload.length + 90 ≤ 140737488355328) := Lib.hid (by have := next_pay P 0; omega)
  have HPL : Hid (∀ fs : List FrV, frOf fs = (scanF P).1 → ∀ f ∈ fs, (FrV.pay f).length + 90 ≤ 140737488355328) := Lib.hid (fun fs h f hf => by have := scanF_pay P fs h f hf; omega)
  have HPL2 : Hid (∀ fs : List FrV, frOf fs = (scanF (over P)).1 → ∀ f ∈ fs, (FrV.pay f).length + 90 ≤ 140737488355328) := Lib.hid (fun fs h f hf => by have := scanF_pay (over P) fs h f hf; rw [HOL.out] at this; omega)
  generalize scanF P = r at *
  generalize scanF (over P) = r2 at *
  generalize nextF P 0 = x at *
  obtain ⟨rl, rn⟩ := r
  obtain ⟨rl2, rn2⟩ := r2
  simp only at hle hle2
  have HF : Hid (Free (· = w.heap.size) A P) := Lib.hid (Free.of_old hp.old fun k hk => by rw [hk]; exact Nat.le_refl _)
  have hrn : (rn != rn) = false := by simp
  have hrn2 : (rn2 != rn2) = false := by simp
  have TS1 : Hid True := Lib.hid trivial
  have TS2 : Hid True := Lib.hid trivial
  have TN1 : Hid True := Lib.hid trivial
  have TN2 : Hid True := Lib.hid trivial
  have TP1 : Hid True := Lib.hid trivial
  have TP2 : Hid True := Lib.hid trivial
  have TD : Hid True := Lib.hid trivial
  go_enter Try.func14, Try.ntmps14
  go_wp2_with (first
    | (go_at_call 6; (with_reducible refine (spare_calls A P c _ hp (by omega)).mono ?_); rintro e1 w1 ⟨rfl, hn1⟩
       have hg1 := (hn1.own.at_base _ rfl).2
       have HG1 := Lib.hid hg1
       have FG := Lib.hid hn1.own
       have YB := Lib.hid (mvB (Nat.le_refl _) hn1.below hg1)
       have YQ := Lib.hid (mvRB HF.out (hp.new hn1.below))
       clear hg1)
    | (go_at_call 26; have tt := TD; go_loud (with_reducible refine (h2.out _ A c YQ.out.h).mono ?_); rintro e2 w2 ⟨A2, c2, gs, rfl, hf2, he2, hb2⟩
       clear tt TD
       have q2 := Lib.hid he2
       have L2 : Hid (rl.length = gs.length) := Lib.hid (by rw [← he2]; simp [frOf])
       have lt := YB.out.h.2
       replace YB := Lib.hid (YB.out.step (Wr1.new hb2)); replace YQ := Lib.hid (YQ.out.step (Wr1.new hb2))
       have Y2 := Lib.hid (mvFL lt hf2)
       clear lt
       replace FG := Lib.hid (FG.out.new hb2)
       have z2 := Lib.hid hb2.size
       clear hb2 hf2 he2)
    | (go_at_call 27; have tt := TS1; go_loud (with_reducible refine (h1.out _ _ _ FG.out.reads.pre).mono ?_); rintro e3 w3 ⟨A3, c3, fs1, rfl, hf3, he3, hb3⟩
       clear tt TS1
       have q3 := Lib.hid he3
       have L3 : Hid (rl.length = fs1.length) := Lib.hid (by rw [← he3]; simp [frOf])
       have lt := YB.out.h.2
       replace YB := Lib.hid (YB.out.step (Wr1.new hb3)); replace YQ := Lib.hid (YQ.out.step (Wr1.new hb3)); replace Y2 := Lib.hid (Y2.out.step (Wr1.new hb3))
       have Y3 := Lib.hid (mvFL lt hf3)
       clear lt
       replace FG := Lib.hid (FG.out.new hb3)
       have z3 := Lib.hid hb3.size
       have U3 := Lib.hid hf3.top
       clear hb3 hf3 he3)
    | (go_at_call 27; have tt := TS2; go_loud (with_reducible refine (h1.out _ _ _ FG.out.reads.pre).mono ?_); rintro e4 w4 ⟨A4, c4, fs2, rfl, hf4, he4, hb4⟩
       clear tt TS2
       have q4 := Lib.hid he4
       have L4 : Hid (rl.length = fs2.length) := Lib.hid (by rw [← he4]; simp [frOf])
       have lt := YB.out.h.2
       replace YB := Lib.hid (YB.out.step (Wr1.new hb4)); replace YQ := Lib.hid (YQ.out.step (Wr1.new hb4)); replace Y2 := Lib.hid (Y2.out.step (Wr1.new hb4)); replace Y3 := Lib.hid (Y3.out.step (Wr1.new hb4))
       have Y4 := Lib.hid (mvFL lt hf4)
       clear lt
       replace FG := Lib.hid (FG.out.new hb4)
       have z4 := Lib.hid hb4.size
       have U4 := Lib.hid hf4.top
       clear hb4 hf4 he4)
    | (go_at_call 18; have tt := TN1; go_loud (with_reducible refine (h3.out _ _ _ FG.out.reads.pre).mono ?_); rintro e5 w5 ⟨A5, c5, rfl, hn5⟩
       clear tt TN1
       have ha5 := below_alloc1 (Below.refl w5.heap.size w5) (Nat.le_refl _) (.cells #[.int .u64 x.place, .slice A5 x.payload.length c5] 43)
       have lt5 := YB.out.h.2
       have lt5b := (YB.out.step (Wr1.new hn5.below)).h.2
       have st5 := (Wr1.new hn5.below : Wr1 w.heap.size _ _).trans (Wr1.new ha5)
       replace YB := Lib.hid (YB.out.step st5); replace YQ := Lib.hid (YQ.out.step st5); replace Y2 := Lib.hid (Y2.out.step st5); replace Y3 := Lib.hid (Y3.out.step st5); replace Y4 := Lib.hid (Y4.out.step st5)
       have Y5 := Lib.hid ((mvOB lt5 hn5.own).step (Wr1.new ha5))
       have P5 := Lib.hid (mvPair lt5b (Pair.fresh w5 (.int .u64 x.place) (.slice A5 x.payload.length c5) 43))
       clear st5
       replace FG := Lib.hid ((FG.out.new hn5.below).new ha5)
       have z5 := Lib.hid hn5.below.size
       have z5a := Lib.hid ha5.size
       have U5 := Lib.hid hn5.own.top
       clear hn5 lt5 lt5b ha5)
    | (go_at_call 18; have tt := TN2; go_loud (with_reducible refine (h3.out _ _ _ FG.out.reads.pre).mono ?_); rintro e6 w6 ⟨A6, c6, rfl, hn6⟩
       clear tt TN2
       have ha6 := below_alloc1 (Below.refl w6.heap.size w6) (Nat.le_refl _) (.cells #[.int .u64 x.place, .slice A6 x.payload.length c6] 43)
       have lt6 := YB.out.h.2
       have lt6b := (YB.out.step (Wr1.new hn6.below)).h.2
       have st6 := (Wr1.new hn6.below : Wr1 w.heap.size _ _).trans (Wr1.new ha6)
       replace YB := Lib.hid (YB.out.step st6); replace YQ := Lib.hid (YQ.out.step st6); replace Y2 := Lib.hid (Y2.out.step st6); replace Y3 := Lib.hid (Y3.out.step st6); replace Y4 := Lib.hid (Y4.out.step st6); replace Y5 := Lib.hid (Y5.out.step st6); replace P5 := Lib.hid (P5.out.step st6)
       have Y6 := Lib.hid ((mvOB lt6 hn6.own).step (Wr1.new ha6))
       have P6 := Lib.hid (mvPair lt6b (Pair.fresh w6 (.int .u64 x.place) (.slice A6 x.payload.length c6) 43))
       clear st6
       replace FG := Lib.hid ((FG.out.new hn6.below).new ha6)
       have z6 := Lib.hid hn6.below.size
       have z6a := Lib.hid ha6.size
       have U6 := Lib.hid hn6.own.top
       clear hn6 lt6 lt6b ha6)
    | (go_at_call 28; go_loud (with_reducible refine (h4.out _ A c YQ.out.h).mono ?_); rintro e7 w7 ⟨A7, c7, rfl, hn7⟩
       have ha7 := below_alloc1 (Below.refl w7.heap.size w7) (Nat.le_refl _) (.cells #[.int .u64 x.place, .slice A7 x.payload.length c7] 61)
       have lt7 := YB.out.h.2
       have lt7b := (YB.out.step (Wr1.new hn7.below)).h.2
       have st7 := (Wr1.new hn7.below : Wr1 w.heap.size _ _).trans (Wr1.new ha7)
       replace YB := Lib.hid (YB.out.step st7); replace YQ := Lib.hid (YQ.out.step st7); replace Y2 := Lib.hid (Y2.out.step st7); replace Y3 := Lib.hid (Y3.out.step st7); replace Y4 := Lib.hid (Y4.out.step st7); replace Y5 := Lib.hid (Y5.out.step st7); replace P5 := Lib.hid (P5.out.step st7); replace Y6 := Lib.hid (Y6.out.step st7); replace P6 := Lib.hid (P6.out.step st7)
       have Y7 := Lib.hid ((mvOB lt7 hn7.own).step (Wr1.new ha7))
       have P7 := Lib.hid (mvPair lt7b (Pair.fresh w7 (.int .u64 x.place) (.slice A7 x.payload.length c7) 61))
       clear st7
       have z7 := Lib.hid hn7.below.size
       have z7a := Lib.hid ha7.size
       have YS := Lib.hid (mvS (g := w.heap.size) (n := w7.heap.size + 1) (Nat.le_of_eq (asz w7 (.cells #[.int .u64 x.place, .slice A7 x.payload.length c7] 61)).symm))
       replace FG := Lib.hid ((FG.out.new hn7.below).new ha7)
       clear hn7 lt7 lt7b ha7
       have f0 := P5.out.h.c0; have f1 := P5.out.h.c1; have g0 := P6.out.h.c0; have g1 := P6.out.h.c1; have d0 := P7.out.h.c0; have d1 := P7.out.h.c1)
    | (go_at_call 29; (with_reducible refine (alike_calls _ _ A3 A2 _ _ c3 c2 fs1 gs _ Y3.out.h Y2.out.h (q3.out.trans q2.out.symm) L3.out L2.out (by rw [← L3.out]; omega)).mono ?_); rintro e8 w8 ⟨rfl, hb8⟩
       have st := Lib.hid (show Wr1 w.heap.size _ _ from Wr1.new hb8)
       (try replace YB := Lib.hid (YB.out.step st.out)); (try replace YQ := Lib.hid (YQ.out.step st.out)); (try replace Y2 := Lib.hid (Y2.out.step st.out)); (try replace Y3 := Lib.hid (Y3.out.step st.out)); (try replace Y4 := Lib.hid (Y4.out.step st.out)); (try replace Y5 := Lib.hid (Y5.out.step st.out)); (try replace P5 := Lib.hid (P5.out.step st.out)); (try replace Y6 := Lib.hid (Y6.out.step st.out)); (try replace P6 := Lib.hid (P6.out.step st.out)); (try replace Y7 := Lib.hid (Y7.out.step st.out)); (try replace P7 := Lib.hid (P7.out.step st.out)); (try replace YS := Lib.hid (YS.out.step st.out)); (try replace Y15 := Lib.hid (Y15.out.step st.out)); (try replace Y16 := Lib.hid (Y16.out.step st.out)); (try replace YT := Lib.hid (YT.out.step st.out))
       clear st
       replace FG := Lib.hid (FG.out.new hb8)
       clear hb8
       replace f0 := P5.out.h.c0; replace f1 := P5.out.h.c1; replace g0 := P6.out.h.c0; replace g1 := P6.out.h.c1; replace d0 := P7.out.h.c0; replace d1 := P7.out.h.c1)
    | (go_at_call 29; (with_reducible refine (alike_calls _ _ A4 A2 _ _ c4 c2 fs2 gs _ Y4.out.h Y2.out.h (q4.out.trans q2.out.symm) L4.out L2.out (by rw [← L4.out]; omega)).mono ?_); rintro e9 w9 ⟨rfl, hb9⟩
       have st := Lib.hid (show Wr1 w.heap.size _ _ from Wr1.new hb9)
       (try replace YB := Lib.hid (YB.out.step st.out)); (try replace YQ := Lib.hid (YQ.out.step st.out)); (try replace Y2 := Lib.hid (Y2.out.step st.out)); (try replace Y3 := Lib.hid (Y3.out.step st.out)); (try replace Y4 := Lib.hid (Y4.out.step st.out)); (try replace Y5 := Lib.hid (Y5.out.step st.out)); (try replace P5 := Lib.hid (P5.out.step st.out)); (try replace Y6 := Lib.hid (Y6.out.step st.out)); (try replace P6 := Lib.hid (P6.out.step st.out)); (try replace Y7 := Lib.hid (Y7.out.step st.out)); (try replace P7 := Lib.hid (P7.out.step st.out)); (try replace YS := Lib.hid (YS.out.step st.out)); (try replace Y15 := Lib.hid (Y15.out.step st.out)); (try replace Y16 := Lib.hid (Y16.out.step st.out)); (try replace YT := Lib.hid (YT.out.step st.out))
       clear st
       replace FG := Lib.hid (FG.out.new hb9)
       clear hb9
       replace f0 := P5.out.h.c0; replace f1 := P5.out.h.c1; replace g0 := P6.out.h.c0; replace g1 := P6.out.h.c1; replace d0 := P7.out.h.c0; replace d1 := P7.out.h.c1)
    | (go_at_call 10; (with_reducible refine (kept_calls _ A _ c P _ FG.out.reads YQ.out.h _ rfl (by omega)).mono ?_); rintro e10 w10 ⟨rfl, hd10⟩
       have st := Lib.hid (show Wr1 w.heap.size _ _ from Wr1.new (hd10.below _))
       (try replace YB := Lib.hid (YB.out.step st.out)); (try replace YQ := Lib.hid (YQ.out.step st.out)); (try replace Y2 := Lib.hid (Y2.out.step st.out)); (try replace Y3 := Lib.hid (Y3.out.step st.out)); (try replace Y4 := Lib.hid (Y4.out.step st.out)); (try replace Y5 := Lib.hid (Y5.out.step st.out)); (try replace P5 := Lib.hid (P5.out.step st.out)); (try replace Y6 := Lib.hid (Y6.out.step st.out)); (try replace P6 := Lib.hid (P6.out.step st.out)); (try replace Y7 := Lib.hid (Y7.out.step st.out)); (try replace P7 := Lib.hid (P7.out.step st.out)); (try replace YS := Lib.hid (YS.out.step st.out)); (try replace Y15 := Lib.hid (Y15.out.step st.out)); (try replace Y16 := Lib.hid (Y16.out.step st.out)); (try replace YT := Lib.hid (YT.out.step st.out))
       clear st
       replace FG := Lib.hid (FG.out.new (hd10.below _))
       clear hd10
       replace f0 := P5.out.h.c0; replace f1 := P5.out.h.c1; replace g0 := P6.out.h.c0; replace g1 := P6.out.h.c1; replace d0 := P7.out.h.c0; replace d1 := P7.out.h.c1)
    | (go_at_call 19; (with_reducible refine (fsameN x.place x.place _ _ A5 A7 x.payload x.payload _ _ c5 c7 _ Y5.out.h.rb Y7.out.h.rb rfl rfl true (by simp) rfl rfl).mono ?_); rintro e11 w11 ⟨rfl, hb11⟩
       have st := Lib.hid (show Wr1 w.heap.size _ _ from Wr1.new hb11)
       (try replace YB := Lib.hid (YB.out.step st.out)); (try replace YQ := Lib.hid (YQ.out.step st.out)); (try replace Y2 := Lib.hid (Y2.out.step st.out)); (try replace Y3 := Lib.hid (Y3.out.step st.out)); (try replace Y4 := Lib.hid (Y4.out.step st.out)); (try replace Y5 := Lib.hid (Y5.out.step st.out)); (try replace P5 := Lib.hid (P5.out.step st.out)); (try replace Y6 := Lib.hid (Y6.out.step st.out)); (try replace P6 := Lib.hid (P6.out.step st.out)); (try replace Y7 := Lib.hid (Y7.out.step st.out)); (try replace P7 := Lib.hid (P7.out.step st.out)); (try replace YS := Lib.hid (YS.out.step st.out)); (try replace Y15 := Lib.hid (Y15.out.step st.out)); (try replace Y16 := Lib.hid (Y16.out.step st.out)); (try replace YT := Lib.hid (YT.out.step st.out))
       clear st
       replace FG := Lib.hid (FG.out.new hb11)
       clear hb11
       replace f0 := P5.out.h.c0; replace f1 := P5.out.h.c1; replace g0 := P6.out.h.c0; replace g1 := P6.out.h.c1; replace d0 := P7.out.h.c0; replace d1 := P7.out.h.c1)
    | (go_at_call 19; (with_reducible refine (fsameN x.place x.place _ _ A6 A7 x.payload x.payload _ _ c6 c7 _ Y6.out.h.rb Y7.out.h.rb rfl rfl true (by simp) rfl rfl).mono ?_); rintro e12 w12 ⟨rfl, hb12⟩
       have st := Lib.hid (show Wr1 w.heap.size _ _ from Wr1.new hb12)
       (try replace YB := Lib.hid (YB.out.step st.out)); (try replace YQ := Lib.hid (YQ.out.step st.out)); (try replace Y2 := Lib.hid (Y2.out.step st.out)); (try replace Y3 := Lib.hid (Y3.out.step st.out)); (try replace Y4 := Lib.hid (Y4.out.step st.out)); (try replace Y5 := Lib.hid (Y5.out.step st.out)); (try replace P5 := Lib.hid (P5.out.step st.out)); (try replace Y6 := Lib.hid (Y6.out.step st.out)); (try replace P6 := Lib.hid (P6.out.step st.out)); (try replace Y7 := Lib.hid (Y7.out.step st.out)); (try replace P7 := Lib.hid (P7.out.step st.out)); (try replace YS := Lib.hid (YS.out.step st.out)); (try replace Y15 := Lib.hid (Y15.out.step st.out)); (try replace Y16 := Lib.hid (Y16.out.step st.out)); (try replace YT := Lib.hid (YT.out.step st.out))
       clear st
       replace FG := Lib.hid (FG.out.new hb12)
       clear hb12
       replace f0 := P5.out.h.c0; replace f1 := P5.out.h.c1; replace g0 := P6.out.h.c0; replace g1 := P6.out.h.c1; replace d0 := P7.out.h.c0; replace d1 := P7.out.h.c1)
    | (go_at_call 11; (with_reducible refine (overR _ _ _ _ _ _ P (marks 40) _ FG.out rfl).mono ?_); rintro e13 w13 ⟨rfl, ho13, hg13⟩
       have st := Lib.hid (show Wr1 w.heap.size _ _ from Wr1.row hg13)
       (try replace YB := Lib.hid (YB.out.step st.out)); (try replace YQ := Lib.hid (YQ.out.step st.out)); (try replace Y2 := Lib.hid (Y2.out.step st.out)); (try replace Y3 := Lib.hid (Y3.out.step st.out)); (try replace Y4 := Lib.hid (Y4.out.step st.out)); (try replace Y5 := Lib.hid (Y5.out.step st.out)); (try replace P5 := Lib.hid (P5.out.step st.out)); (try replace Y6 := Lib.hid (Y6.out.step st.out)); (try replace P6 := Lib.hid (P6.out.step st.out)); (try replace Y7 := Lib.hid (Y7.out.step st.out)); (try replace P7 := Lib.hid (P7.out.step st.out)); (try replace YS := Lib.hid (YS.out.step st.out)); (try replace Y15 := Lib.hid (Y15.out.step st.out)); (try replace Y16 := Lib.hid (Y16.out.step st.out)); (try replace YT := Lib.hid (YT.out.step st.out))
       clear st
       replace FG := Lib.hid ho13
       clear hg13 ho13; clear f0 f1 g0 g1 d0 d1)
    | (go_at_call 12; (with_reducible refine (twinR _ (over P) _ _ _ FG.out.reads.pre HOL.out.symm (by rw [HOL.out]; omega)).mono ?_); rintro e14 w14 ⟨A14, c14, rfl, hn14⟩
       have o14 := Lib.hid hn14.own.rb
       have st := Lib.hid (show Wr1 w.heap.size _ _ from Wr1.new hn14.below)
       (try replace YB := Lib.hid (YB.out.step st.out)); (try replace YQ := Lib.hid (YQ.out.step st.out)); (try replace Y2 := Lib.hid (Y2.out.step st.out)); (try replace Y3 := Lib.hid (Y3.out.step st.out)); (try replace Y4 := Lib.hid (Y4.out.step st.out)); (try replace Y5 := Lib.hid (Y5.out.step st.out)); (try replace P5 := Lib.hid (P5.out.step st.out)); (try replace Y6 := Lib.hid (Y6.out.step st.out)); (try replace P6 := Lib.hid (P6.out.step st.out)); (try replace Y7 := Lib.hid (Y7.out.step st.out)); (try replace P7 := Lib.hid (P7.out.step st.out)); (try replace YS := Lib.hid (YS.out.step st.out)); (try replace Y15 := Lib.hid (Y15.out.step st.out)); (try replace Y16 := Lib.hid (Y16.out.step st.out)); (try replace YT := Lib.hid (YT.out.step st.out))
       clear st
       replace FG := Lib.hid (FG.out.new hn14.below)
       clear hn14)
    | (go_at_call 26; (with_reducible refine (h6.out _ A14 c14 o14.out).mono ?_); rintro e15 w15 ⟨A15, c15, gs2, rfl, hf15, he15, hb15⟩
       have q15 := Lib.hid he15
       have L15 : Hid (rl2.length = gs2.length) := Lib.hid (by rw [← he15]; simp [frOf])
       have lt := YB.out.h.2
       replace YB := Lib.hid (YB.out.step (Wr1.new hb15)); replace YQ := Lib.hid (YQ.out.step (Wr1.new hb15)); replace Y2 := Lib.hid (Y2.out.step (Wr1.new hb15)); replace Y3 := Lib.hid (Y3.out.step (Wr1.new hb15)); replace Y4 := Lib.hid (Y4.out.step (Wr1.new hb15)); replace Y5 := Lib.hid (Y5.out.step (Wr1.new hb15)); replace P5 := Lib.hid (P5.out.step (Wr1.new hb15)); replace Y6 := Lib.hid (Y6.out.step (Wr1.new hb15)); replace P6 := Lib.hid (P6.out.step (Wr1.new hb15)); replace Y7 := Lib.hid (Y7.out.step (Wr1.new hb15)); replace P7 := Lib.hid (P7.out.step (Wr1.new hb15)); replace YS := Lib.hid (YS.out.step (Wr1.new hb15))
       have Y15 := Lib.hid (mvFL lt hf15)
       clear lt
       replace FG := Lib.hid (FG.out.new hb15)
       have z15 : Hid (w7.heap.size < w15.heap.size) := Lib.hid YS.out.h
       clear hb15 hf15 he15)
    | (go_at_call 27; (with_reducible refine (h5.out _ _ _ FG.out.reads.pre).mono ?_); rintro e16 w16 ⟨A16, c16, fs3, rfl, hf16, he16, hb16⟩
       have q16 := Lib.hid he16
       have L16 : Hid (rl2.length = fs3.length) := Lib.hid (by rw [← he16]; simp [frOf])
       have lt := YB.out.h.2
       replace YB := Lib.hid (YB.out.step (Wr1.new hb16)); replace YQ := Lib.hid (YQ.out.step (Wr1.new hb16)); replace Y2 := Lib.hid (Y2.out.step (Wr1.new hb16)); replace Y3 := Lib.hid (Y3.out.step (Wr1.new hb16)); replace Y4 := Lib.hid (Y4.out.step (Wr1.new hb16)); replace Y5 := Lib.hid (Y5.out.step (Wr1.new hb16)); replace P5 := Lib.hid (P5.out.step (Wr1.new hb16)); replace Y6 := Lib.hid (Y6.out.step (Wr1.new hb16)); replace P6 := Lib.hid (P6.out.step (Wr1.new hb16)); replace Y7 := Lib.hid (Y7.out.step (Wr1.new hb16)); replace P7 := Lib.hid (P7.out.step (Wr1.new hb16)); replace YS := Lib.hid (YS.out.step (Wr1.new hb16)); replace Y15 := Lib.hid (Y15.out.step (Wr1.new hb16))
       have Y16 := Lib.hid (mvFL lt hf16)
       clear lt
       replace FG := Lib.hid (FG.out.new hb16)
       have YT := Lib.hid (mvS (w := w16) (g := w.heap.size) (n := w16.heap.size) (Nat.le_refl _))
       have z16 := Lib.hid hb16.size
       have U16 := Lib.hid hf16.top
       clear hb16 hf16 he16
       have f0 := P5.out.h.c0; have f1 := P5.out.h.c1; have g0 := P6.out.h.c0; have g1 := P6.out.h.c1; have d0 := P7.out.h.c0; have d1 := P7.out.h.c1)
    | (go_at_call 29; (with_reducible refine (alike_calls _ _ A16 A15 _ _ c16 c15 fs3 gs2 _ Y16.out.h Y15.out.h (q16.out.trans q15.out.symm) L16.out L15.out (by rw [← L16.out]; omega)).mono ?_); rintro e17 w17 ⟨rfl, hb17⟩
       have st := Lib.hid (show Wr1 w.heap.size _ _ from Wr1.new hb17)
       (try replace YB := Lib.hid (YB.out.step st.out)); (try replace YQ := Lib.hid (YQ.out.step st.out)); (try replace Y2 := Lib.hid (Y2.out.step st.out)); (try replace Y3 := Lib.hid (Y3.out.step st.out)); (try replace Y4 := Lib.hid (Y4.out.step st.out)); (try replace Y5 := Lib.hid (Y5.out.step st.out)); (try replace P5 := Lib.hid (P5.out.step st.out)); (try replace Y6 := Lib.hid (Y6.out.step st.out)); (try replace P6 := Lib.hid (P6.out.step st.out)); (try replace Y7 := Lib.hid (Y7.out.step st.out)); (try replace P7 := Lib.hid (P7.out.step st.out)); (try replace YS := Lib.hid (YS.out.step st.out)); (try replace Y15 := Lib.hid (Y15.out.step st.out)); (try replace Y16 := Lib.hid (Y16.out.step st.out)); (try replace YT := Lib.hid (YT.out.step st.out))
       clear st
       replace FG := Lib.hid (FG.out.new hb17)
       clear hb17
       replace f0 := P5.out.h.c0; replace f1 := P5.out.h.c1; replace g0 := P6.out.h.c0; replace g1 := P6.out.h.c1; replace d0 := P7.out.h.c0; replace d1 := P7.out.h.c1)
    )
  have hg1 := HG1.out; have z2 := z2.out; have z3 := z3.out; have z4 := z4.out; have z5 := z5.out; have z5a := z5a.out; have z6 := z6.out; have z6a := z6a.out; have z7 := z7.out; have z7a := z7a.out; have z15 := z15.out; have z16 := z16.out
  have hgv : OB w11 w.heap.size 5 (.slice (some ⟨w.heap.size, 0, none⟩) P.length (P.length + 40)) (over P) := by
    have h0 := FG.out
    have e0 : P.length + 40 = (over P ++ marks 40).length := by rw [List.length_append, HOL.out, marks_length]
    rw [show (Value.slice (some ⟨w.heap.size, 0, none⟩) (P.length + 40) (P.length + 40)) = .slice (some ⟨w.heap.size, 0, none⟩) (over P ++ marks 40).length (P.length + 40) by rw [← e0]] at h0
    exact OB.pre h0 HOL.out.symm
  have zA : w16.heap.size ≤ w11.heap.size := YT.out.h
  have xl : x.payload.length + 90 ≤ 140737488355328 := HXL.out
  have APT : Apt w11 w.heap.size w11.heap.size (((fs1.map hdOf ++ fs2.map hdOf) ++ fs3.map hdOf) ++ (([⟨A5, x.payload.length, c5⟩] ++ [⟨A6, x.payload.length, c6⟩]) ++ [⟨some ⟨w.heap.size, 0, none⟩, P.length, P.length + 40⟩])) := by
    have y3 : FL w11 w2.heap.size 43 (.slice A3 rl.length c3) fs1 := Y3.out.h
    have y4 : FL w11 w3.heap.size 43 (.slice A4 rl.length c4) fs2 := Y4.out.h
    have y13 : FL w11 w15.heap.size 43 (.slice A16 rl2.length c16) fs3 := Y16.out.h
    have y5 : OB w11 w4.heap.size 5 (.slice A5 x.payload.length c5) x.payload := Y5.out.h
    have y7 : OB w11 (w5.alloc (.cells #[.int .u64 x.place, .slice A5 x.payload.length c5] 43)).heap.size 5 (.slice A6 x.payload.length c6) x.payload := Y6.out.h
    have a1 := Apt.ofFL y3 U3.out (HPL.out fs1 q3.out)
    have a2 := Apt.ofFL y4 U4.out (HPL.out fs2 q4.out)
    have a3 := Apt.ofFL y13 U16.out (HPL2.out fs3 q16.out)
    have a4 := Apt.oneAt y5 U5.out xl
    have a5 := Apt.oneAt y7 U6.out xl
    have a6 := Apt.oneAt (hi := w1.heap.size) hgv (fun k hk => by obtain rfl := Option.some.inj hk; exact hg1) (by omega)
    have b1 := a1.append a2 (lo := w2.heap.size) (hi := w4.heap.size) (.inl (Nat.le_refl _)) (by omega) (by omega) (by omega) (by omega)
    have b3 := a4.append a5 (lo := w4.heap.size) (hi := w6.heap.size) (.inl (by omega)) (by omega) (by omega) (by omega) (by omega)
    have b4 := b1.append b3 (lo := w2.heap.size) (hi := w6.heap.size) (.inl (by omega)) (by omega) (by omega) (by omega) (by omega)
    have b5 := b4.append a3 (lo := w2.heap.size) (hi := w16.heap.size) (.inl (by omega)) (by omega) (by omega) (by omega) (by omega)
    have b6 := a6.append b5 (lo := w.heap.size) (hi := w11.heap.size) (.inl (by omega)) (by omega) (by omega) (by omega) (by omega)
    refine b6.perm ?_
    refine List.perm_append_comm.trans ?_
    rw [← List.append_assoc _ _ ([(⟨some ⟨w.heap.size, 0, none⟩, P.length, P.length + 40⟩ : Hd)])]
    refine List.Perm.append_right _ ?_
    exact perm3 _ _ _
  have HNF : Hid (∀ h ∈ ((fs1.map hdOf ++ fs2.map hdOf) ++ fs3.map hdOf) ++ (([(⟨A5, x.payload.length, c5⟩ : Hd)] ++ [(⟨A6, x.payload.length, c6⟩ : Hd)]) ++ [(⟨some ⟨w.heap.size, 0, none⟩, P.length, P.length + 40⟩ : Hd)]), ∀ k, h.val.ownBlock = some k → k ≠ w5.heap.size ∧ k ≠ w6.heap.size) := Lib.hid (by
    have y16 : FL w11 w15.heap.size 43 (.slice A16 rl2.length c16) fs3 := Y16.out.h
    have y7 : OB w11 (w5.alloc (.cells #[.int .u64 x.place, .slice A5 x.payload.length c5] 43)).heap.size 5 (.slice A6 x.payload.length c6) x.payload := Y6.out.h
    intro h hh k hk
    rcases List.mem_append.1 hh with hh | hh
    · rcases List.mem_append.1 hh with hh | hh
      · rcases List.mem_append.1 hh with hh | hh
        · obtain ⟨f, hf, rfl⟩ := List.mem_map.1 hh
          have := U3.out f hf k hk
          omega
        · obtain ⟨f, hf, rfl⟩ := List.mem_map.1 hh
          have := U4.out f hf k hk
          omega
      · obtain ⟨f, hf, rfl⟩ := List.mem_map.1 hh
        have := ((y16.own f hf).at_base k hk).1
        omega
    · rcases List.mem_append.1 hh with hh | hh
      · rcases List.mem_append.1 hh with hh | hh
        · obtain rfl := List.mem_singleton.1 hh
          have := U5.out k hk
          omega
        · obtain rfl := List.mem_singleton.1 hh
          have h1 := U6.out k hk
          have h2 := (y7.at_base k hk).1
          rw [asz] at h2
          have h3 := asz w5 (.cells #[.int .u64 x.place, .slice A5 x.payload.length c5] 43)
          omega
      · obtain rfl := List.mem_singleton.1 hh
        have h9 : w.heap.size = k := Option.some.inj hk
        subst h9
        omega)
  have Z56 : Hid (w5.heap.size < w11.heap.size ∧ w6.heap.size < w11.heap.size) := Lib.hid (by omega)
  have ZA := Lib.hid (mv2Apt (hi := w11.heap.size) APT)
  have Z4 := Lib.hid (mv2FL Y4.out.h)
  have Z16 := Lib.hid (mv2FL Y16.out.h)
  have Q5 := Lib.hid (mv2Pair P5.out.h)
  have Q6 := Lib.hid (mv2Pair P6.out.h)
  have ZB := Lib.hid (mv2B YB.out.h.1.size YB.out.h.1)
  have ZS := Lib.hid (mv2S (h := w11.heap.size) (Nat.le_refl w11.heap.size))
  clear hg1 z2 z3 z4 z5 z5a z6 z6a z7 z7a z15 z16 hgv zA xl APT f0 f1 g0 g1 d0 d1
  go_wp2_with (first
    | (go_at_call 30; (with_reducible refine (payloads_calls _ A3 _ c3 fs1 _ Y3.out.h L3.out (by rw [← L3.out]; omega)).mono ?_); rintro e18 w18 ⟨A18, c18, rfl, hl18, hb18⟩
       have LA := Lib.hid hl18
       replace ZA := Lib.hid (ZA.out.step hb18); replace Z4 := Lib.hid (Z4.out.step hb18); replace Z16 := Lib.hid (Z16.out.step hb18); replace Q5 := Lib.hid (Q5.out.step hb18); replace Q6 := Lib.hid (Q6.out.step hb18); replace ZB := Lib.hid (ZB.out.step hb18); replace ZS := Lib.hid (ZS.out.step hb18)
       clear hl18 hb18)
    | (go_at_call 30; (with_reducible refine (payloads_calls _ A4 _ c4 fs2 _ Z4.out.h L4.out (by rw [← L4.out]; omega)).mono ?_); rintro e19 w19 ⟨A19, c19, rfl, hl19, hb19⟩
       have LB := Lib.hid hl19
       replace LA := Lib.hid (LA.out.new hb19)
       have b19 := below_lower hb19 ZS.out.h
       replace ZA := Lib.hid (ZA.out.step b19); replace Z4 := Lib.hid (Z4.out.step b19); replace Z16 := Lib.hid (Z16.out.step b19); replace Q5 := Lib.hid (Q5.out.step b19); replace Q6 := Lib.hid (Q6.out.step b19); replace ZB := Lib.hid (ZB.out.step b19); replace ZS := Lib.hid (ZS.out.step b19)
       clear hl19 hb19 b19)
    | (refine wp_appendLL lst rfl (.tmp 150) (.tmp 152) rfl w11.heap.size (.slice A18 fs1.length c18) (fs1.map hdOf) (fs2.map hdOf) rfl LA.out A19 fs2.length c19 rfl (by simp) (fun i y hy => by obtain ⟨b, e1, e2, _⟩ := LB.out.cell i y hy; exact ⟨b, e1, e2⟩) (fun h => by subst h; exact LB.out.none0) (by simp; have := L3.out; have := L4.out; omega) ZS.out.h fun A20 n20 c20 w20 hn20 hl20 hg20 => ?_
       have N20 := Lib.hid hn20
       have LC := Lib.hid hl20
       have b20 := (Below.refl w11.heap.size w19).grown hg20 ZS.out.h (fun k hk => (LA.out.lt k hk).1)
       replace ZA := Lib.hid (ZA.out.step b20); replace Z4 := Lib.hid (Z4.out.step b20); replace Z16 := Lib.hid (Z16.out.step b20); replace Q5 := Lib.hid (Q5.out.step b20); replace Q6 := Lib.hid (Q6.out.step b20); replace ZB := Lib.hid (ZB.out.step b20); replace ZS := Lib.hid (ZS.out.step b20)
       clear hn20 hl20 hg20 b20))
  have f1 := Q5.out.h.c1
  have g1 := Q6.out.h.c1
  have ZS0 := Lib.hid ZS.out.h
  have LCY := Lib.hid (fun k hk => (LC.out.lt k hk).2)
  have OA : Hid True := Lib.hid trivial
  clear h1 h2 h3 h4 h5 h6 TP1 TP2 HG1 HXL HPL HPL2 q2 L2 q3 U3 q4 U4 U5 U6 o14 q15 L15 q16 U16 YB YQ Y2 Y3 Y4 Y5 P5 Y6 P6 Y7 P7 YS Y15 Y16 YT FG LB LA Z4 HF hrn hrn2
  -- LAST REGION
  have HP5 := Lib.hid Q5.out
  have HP6 := Lib.hid Q6.out
  clear f1 g1
  refine wp_region_held_drew (S := fun w' => ∀ k, k = w5.heap.size ∨ k = w6.heap.size → w'.heap[k]? = w20.heap[k]?) (by kernel_rfl) (fun k _ => rfl) (fun hHeld0 => ?_)
  have hHeld : Below w11.heap.size w20 w20.drew := below_lower (below_drew w20.heap.size w20) ZS0.out
  have LCd := LC.out.new (below_drew w20.heap.size w20)
  have hlo : ∀ k, k = w5.heap.size ∨ k = w6.heap.size → k < w11.heap.size := fun k hk => by have := Z56.out; rcases hk with h9 | h9 <;> omega
  generalize w20.drew = wd at hHeld0 hHeld LCd ⊢
  refine wpAnyH_take (i := 0) (v := .slice A20 n20 c20) rfl (by kernel_rfl) (by kernel_rfl) (by kernel_rfl) (fun _ _ _ h => h) (Or.inl ⟨by rfl, fun w hS => by go_simp⟩) (by assumption) ?_
  try simp only [Act.put, List.getElem_toArray, List.getElem_cons_succ, List.getElem_cons_zero, List.setIfInBounds_toArray, List.set_cons_zero, List.set_cons_succ]
  refine wpAnyH_take (i := 1) (v := .slice A16 rl2.length c16) rfl (by kernel_rfl) (by kernel_rfl) (by kernel_rfl) (fun _ _ _ h => h) (Or.inl ⟨by rfl, fun w hS => by go_simp⟩) (by assumption) ?_
  try simp only [Act.put, List.getElem_toArray, List.getElem_cons_succ, List.getElem_cons_zero, List.setIfInBounds_toArray, List.set_cons_zero, List.set_cons_succ]
  refine wpAnyH_take (i := 4) (v := .pointer (some ⟨w5.heap.size, 1, none⟩)) rfl (by kernel_rfl) (by kernel_rfl) (by kernel_rfl) (fun _ _ _ h => h) (Or.inl ⟨by rfl, fun w hS => by go_simp⟩) (by assumption) ?_
  try simp only [Act.put, List.getElem_toArray, List.getElem_cons_succ, List.getElem_cons_zero, List.setIfInBounds_toArray, List.set_cons_zero, List.set_cons_succ]
  refine wpAnyH_take (i := 5) (v := .slice A5 x.payload.length c5) rfl (by kernel_rfl) (by kernel_rfl) (by kernel_rfl) (fun _ _ _ h => h) (Or.inl ⟨by rfl, fun w hS => by have h9 := hS w5.heap.size (Or.inl rfl); have f1 := (World.cell?_of_block (a := ⟨w5.heap.size, 1, none⟩) h9).trans HP5.out.h.c1; go_simp⟩) (by assumption) ?_
  try simp only [Act.put, List.getElem_toArray, List.getElem_cons_succ, List.getElem_cons_zero, List.setIfInBounds_toArray, List.set_cons_zero, List.set_cons_succ]
  refine wpAnyH_take (i := 6) (v := .pointer (some ⟨w6.heap.size, 1, none⟩)) rfl (by kernel_rfl) (by kernel_rfl) (by kernel_rfl) (fun _ _ _ h => h) (Or.inl ⟨by rfl, fun w hS => by go_simp⟩) (by assumption) ?_
  try simp only [Act.put, List.getElem_toArray, List.getElem_cons_succ, List.getElem_cons_zero, List.setIfInBounds_toArray, List.set_cons_zero, List.set_cons_succ]
  refine wpAnyH_take (i := 7) (v := .slice A6 x.payload.length c6) rfl (by kernel_rfl) (by kernel_rfl) (by kernel_rfl) (fun _ _ _ h => h) (Or.inl ⟨by rfl, fun w hS => by have h9 := hS w6.heap.size (Or.inr rfl); have g1 := (World.cell?_of_block (a := ⟨w6.heap.size, 1, none⟩) h9).trans HP6.out.h.c1; go_simp⟩) (by assumption) ?_
  try simp only [Act.put, List.getElem_toArray, List.getElem_cons_succ, List.getElem_cons_zero, List.setIfInBounds_toArray, List.set_cons_zero, List.set_cons_succ]
  refine wpAnyH_take (i := 8) (v := .slice (some ⟨w.heap.size, 0, none⟩) P.length (P.length + 40)) rfl (by kernel_rfl) (by kernel_rfl) (by kernel_rfl) (fun _ _ _ h => h) (Or.inl ⟨by rfl, fun w hS => by go_simp⟩) (by assumption) ?_
  try simp only [Act.put, List.getElem_toArray, List.getElem_cons_succ, List.getElem_cons_zero, List.setIfInBounds_toArray, List.set_cons_zero, List.set_cons_succ]
  refine wpAnyH_ready (rs := [2, 9]) (by kernel_rfl) (by simp) ?_
  refine AllReadyH.cons rfl (fun K hK => ?_) (AllReadyH.cons rfl (fun K hK => ?_) (AllReadyH.nil))
  · skip
    go_simp
    (go_at_call 30; go_loud (with_reducible refine (payloads_calls _ A16 _ c16 fs3 _ (Z16.out.step hHeld).h L16.out (by rw [← L16.out]; omega)).mono ?_); rintro e21 w21 ⟨A21, c21, rfl, hl21, hb21⟩)
    dsimp only
    have b_1 := below_lower hb21 (Nat.le_trans ZS0.out (hHeld).size)
    have H_1 := (hHeld).trans b_1
    refine hK.out _ _ (fun k9 h9 => (H_1).block k9 (hlo k9 h9)) (fun _ => ?_)
    clear hK K
    try simp only [Act.put, List.getElem_toArray, List.getElem_cons_succ, List.getElem_cons_zero, List.setIfInBounds_toArray, List.set_cons_zero, List.set_cons_succ]
    refine wpAnyH_ready (rs := [3, 9]) (by kernel_rfl) (by simp) ?_
    refine AllReadyH.cons rfl (fun K hK => ?_) (AllReadyH.cons rfl (fun K hK => ?_) (AllReadyH.nil))
    · skip
      refine step_appendLL lst rfl (.tmp 154) (.tmp 156) rfl w11.heap.size (.slice A20 n20 c20) (fs1.map hdOf ++ fs2.map hdOf) (fs3.map hdOf) rfl ((LCd).new hb21) A21 fs3.length c21 rfl (by simp) (fun i y hy => ((hl21).cell i y hy).imp fun _ h => ⟨h.1, h.2.1⟩) (fun h => LL.none0 (h ▸ (hl21))) (by simp; have := L3.out; have := L4.out; have := L16.out; omega) (Nat.le_trans ZS0.out (H_1).size) (fun A22 n22 c22 w22 hn22 hl22 hg22 => ?_)
      clear hn22
      have H_2 := (H_1).grown hg22 (Nat.le_trans ZS0.out (H_1).size) (fun k hk => (LC.out.lt k hk).1)
      refine hK.out _ _ (fun k9 h9 => (H_2).block k9 (hlo k9 h9)) (fun _ => ?_)
      clear hK K
      try simp only [Act.put, List.getElem_toArray, List.getElem_cons_succ, List.getElem_cons_zero, List.setIfInBounds_toArray, List.set_cons_zero, List.set_cons_succ]
      refine wpAnyH_ready (rs := [9]) (by kernel_rfl) (by simp) ?_
      refine AllReadyH.cons rfl (fun K hK => ?_) (AllReadyH.nil)
      · skip
        go_simp
        have C_3 := C3.fresh w22 23 (⟨A5, x.payload.length, c5⟩ : Hd) (⟨A6, x.payload.length, c6⟩ : Hd) (⟨some ⟨w.heap.size, 0, none⟩, P.length, P.length + 40⟩ : Hd) w22.heap.size rfl
        have n_3 := below_alloc1 (Below.refl w22.heap.size w22) (Nat.le_refl _) (.cells #[.slice A5 x.payload.length c5, .slice A6 x.payload.length c6, .slice (some ⟨w.heap.size, 0, none⟩) P.length (P.length + 40)] 23)
        have g_3 : w22.heap.size < (w22.alloc (.cells #[.slice A5 x.payload.length c5, .slice A6 x.payload.length c6, .slice (some ⟨w.heap.size, 0, none⟩) P.length (P.length + 40)] 23)).heap.size := by rw [asz]; exact Nat.lt_succ_self _
        have H_3 := (H_2).trans (below_lower n_3 (Nat.le_trans ZS0.out (H_2).size))
        refine hK.out _ _ (fun k9 h9 => (H_3).block k9 (hlo k9 h9)) (fun _ => ?_)
        clear hK K
        try simp only [Act.put, List.getElem_toArray, List.getElem_cons_succ, List.getElem_cons_zero, List.setIfInBounds_toArray, List.set_cons_zero, List.set_cons_succ]
        refine wpAnyH_ready (rs := [10]) (by kernel_rfl) (by simp) ?_
        refine AllReadyH.cons rfl (fun K hK => ?_) (AllReadyH.nil)
        · skip
          refine step_appendLL lst rfl (.tmp 157) (.tmp 163) rfl w11.heap.size (.slice A22 n22 c22) ((fs1.map hdOf ++ fs2.map hdOf) ++ fs3.map hdOf) (([(⟨A5, x.payload.length, c5⟩ : Hd)] ++ [(⟨A6, x.payload.length, c6⟩ : Hd)]) ++ [(⟨some ⟨w.heap.size, 0, none⟩, P.length, P.length + 40⟩ : Hd)]) rfl ((hl22).new n_3) (some ⟨w22.heap.size, 0, none⟩) 3 3 rfl rfl (fun i y hy => ⟨_, rfl, (C_3).at_ i y hy⟩) (fun h => nomatch h) (by simp; have := L3.out; have := L4.out; have := L16.out; omega) (Nat.le_trans ZS0.out (H_3).size) (fun A23 n23 c23 w23 hn23 hl23 hg23 => ?_)
          have HN23 := Lib.hid hn23
          clear hn23
          have H_4 := (H_3).grown hg23 (Nat.le_trans ZS0.out (H_3).size) (fun k hk => (((hl22).new n_3).lt k hk).1)
          refine hK.out _ _ (fun k9 h9 => (H_4).block k9 (hlo k9 h9)) (fun _ => ?_)
          clear hK K
          try simp only [Act.put, List.getElem_toArray, List.getElem_cons_succ, List.getElem_cons_zero, List.setIfInBounds_toArray, List.set_cons_zero, List.set_cons_succ]
          refine wpAnyH_ready (rs := [11]) (by kernel_rfl) (by simp) ?_
          refine AllReadyH.cons rfl (fun K hK => ?_) (AllReadyH.nil)
          · skip
            go_simp
            (go_at_call 13; go_loud (with_reducible refine (apartF w.heap.size w11.heap.size A23 _ n23 c23 _ (ZA.out.step (H_4)).h (Nat.le_trans ZS0.out (H_4).size) (Nat.le_trans ZB.out.h.size (H_4).size) HN23.out (fun i y hy => (hl23.cell i y hy).imp fun _ h => ⟨h.1, h.2.1, .inr h.2.2.1⟩) (by simp; have := L3.out; have := L4.out; have := L16.out; omega)).mono ?_); rintro e24 w24 ⟨rfl, hb24, hs24⟩)
            dsimp only
            have BK := (ZB.out.step (H_4)).h.trans hb24
            refine hK.out _ _ (fun k9 h9 => (hs24.block k9 (Nat.lt_of_lt_of_le (hlo k9 h9) (Nat.le_trans ZS0.out (H_4).size)) (fun ⟨i9, x9, hx9, hb9⟩ => by have := HNF.out x9 (List.mem_of_getElem? hx9) k9 hb9; omega)).trans ((H_4).block k9 (hlo k9 h9))) (fun _ => ?_)
            clear hK K
            try simp only [Act.put, List.getElem_toArray, List.getElem_cons_succ, List.getElem_cons_zero, List.setIfInBounds_toArray, List.set_cons_zero, List.set_cons_succ]
            refine wpAnyH_take (i := 12) (v := .bool true) rfl (by kernel_rfl) (by kernel_rfl) (by kernel_rfl) (fun _ _ _ h => h) (Or.inl ⟨by rfl, fun w hS => by go_simp⟩) (by assumption) ?_
            try simp only [Act.put, List.getElem_toArray, List.getElem_cons_succ, List.getElem_cons_zero, List.setIfInBounds_toArray, List.set_cons_zero, List.set_cons_succ]
            refine wpAnyH_done (by kernel_rfl) ?_ _
            go_wp2_with fail
            go_ret
            exact ⟨rfl, BK⟩
    · skip
      go_simp
      have C_6 := C3.fresh w21 23 (⟨A5, x.payload.length, c5⟩ : Hd) (⟨A6, x.payload.length, c6⟩ : Hd) (⟨some ⟨w.heap.size, 0, none⟩, P.length, P.length + 40⟩ : Hd) w21.heap.size rfl
      have n_6 := below_alloc1 (Below.refl w21.heap.size w21) (Nat.le_refl _) (.cells #[.slice A5 x.payload.length c5, .slice A6 x.payload.length c6, .slice (some ⟨w.heap.size, 0, none⟩) P.length (P.length + 40)] 23)
      have g_6 : w21.heap.size < (w21.alloc (.cells #[.slice A5 x.payload.length c5, .slice A6 x.payload.length c6, .slice (some ⟨w.heap.size, 0, none⟩) P.length (P.length + 40)] 23)).heap.size := by rw [asz]; exact Nat.lt_succ_self _
      have H_6 := (H_1).trans (below_lower n_6 (Nat.le_trans ZS0.out (H_1).size))
      refine hK.out _ _ (fun k9 h9 => (H_6).block k9 (hlo k9 h9)) (fun _ => ?_)
      clear hK K
      try simp only [Act.put, List.getElem_toArray, List.getElem_cons_succ, List.getElem_cons_zero, List.setIfInBounds_toArray, List.set_cons_zero, List.set_cons_succ]
      refine wpAnyH_ready (rs := [3]) (by kernel_rfl) (by simp) ?_
      refine AllReadyH.cons rfl (fun K hK => ?_) (AllReadyH.nil)
      · skip
        refine step_appendLL lst rfl (.tmp 154) (.tmp 156) rfl w11.heap.size (.slice A20 n20 c20) (fs1.map hdOf ++ fs2.map hdOf) (fs3.map hdOf) rfl (((LCd).new hb21).new n_6) A21 fs3.length c21 rfl (by simp) (fun i y hy => (((hl21).new n_6).cell i y hy).imp fun _ h => ⟨h.1, h.2.1⟩) (fun h => LL.none0 (h ▸ ((hl21).new n_6))) (by simp; have := L3.out; have := L4.out; have := L16.out; omega) (Nat.le_trans ZS0.out (H_6).size) (fun A22 n22 c22 w22 hn22 hl22 hg22 => ?_)
        clear hn22
        have C_7 := (C_6).keep (hg22.block _ (g_6) (fun e9 => absurd (LCY.out _ e9.symm) (by have := ((H_1).size); omega)))
        have H_7 := (H_6).grown hg22 (Nat.le_trans ZS0.out (H_6).size) (fun k hk => (LC.out.lt k hk).1)
        refine hK.out _ _ (fun k9 h9 => (H_7).block k9 (hlo k9 h9)) (fun _ => ?_)
        clear hK K
        try simp only [Act.put, List.getElem_toArray, List.getElem_cons_succ, List.getElem_cons_zero, List.setIfInBounds_toArray, List.set_cons_zero, List.set_cons_succ]
        refine wpAnyH_ready (rs := [10]) (by kernel_rfl) (by simp) ?_
        refine AllReadyH.cons rfl (fun K hK => ?_) (AllReadyH.nil)
        · skip
          refine step_appendLL lst rfl (.tmp 157) (.tmp 163) rfl w11.heap.size (.slice A22 n22 c22) ((fs1.map hdOf ++ fs2.map hdOf) ++ fs3.map hdOf) (([(⟨A5, x.payload.length, c5⟩ : Hd)] ++ [(⟨A6, x.payload.length, c6⟩ : Hd)]) ++ [(⟨some ⟨w.heap.size, 0, none⟩, P.length, P.length + 40⟩ : Hd)]) rfl (hl22) (some ⟨w21.heap.size, 0, none⟩) 3 3 rfl rfl (fun i y hy => ⟨_, rfl, (C_7).at_ i y hy⟩) (fun h => nomatch h) (by simp; have := L3.out; have := L4.out; have := L16.out; omega) (Nat.le_trans ZS0.out (H_7).size) (fun A23 n23 c23 w23 hn23 hl23 hg23 => ?_)
          have HN23 := Lib.hid hn23
          clear hn23
          have H_8 := (H_7).grown hg23 (Nat.le_trans ZS0.out (H_7).size) (fun k hk => ((hl22).lt k hk).1)
          refine hK.out _ _ (fun k9 h9 => (H_8).block k9 (hlo k9 h9)) (fun _ => ?_)
          clear hK K
          try simp only [Act.put, List.getElem_toArray, List.getElem_cons_succ, List.getElem_cons_zero, List.setIfInBounds_toArray, List.set_cons_zero, List.set_cons_succ]
          refine wpAnyH_ready (rs := [11]) (by kernel_rfl) (by simp) ?_
          refine AllReadyH.cons rfl (fun K hK => ?_) (AllReadyH.nil)
          · skip
            go_simp
            (go_at_call 13; go_loud (with_reducible refine (apartF w.heap.size w11.heap.size A23 _ n23 c23 _ (ZA.out.step (H_8)).h (Nat.le_trans ZS0.out (H_8).size) (Nat.le_trans ZB.out.h.size (H_8).size) HN23.out (fun i y hy => (hl23.cell i y hy).imp fun _ h => ⟨h.1, h.2.1, .inr h.2.2.1⟩) (by simp; have := L3.out; have := L4.out; have := L16.out; omega)).mono ?_); rintro e24 w24 ⟨rfl, hb24, hs24⟩)
            dsimp only
            have BK := (ZB.out.step (H_8)).h.trans hb24
            refine hK.out _ _ (fun k9 h9 => (hs24.block k9 (Nat.lt_of_lt_of_le (hlo k9 h9) (Nat.le_trans ZS0.out (H_8).size)) (fun ⟨i9, x9, hx9, hb9⟩ => by have := HNF.out x9 (List.mem_of_getElem? hx9) k9 hb9; omega)).trans ((H_8).block k9 (hlo k9 h9))) (fun _ => ?_)
            clear hK K
            try simp only [Act.put, List.getElem_toArray, List.getElem_cons_succ, List.getElem_cons_zero, List.setIfInBounds_toArray, List.set_cons_zero, List.set_cons_succ]
            refine wpAnyH_take (i := 12) (v := .bool true) rfl (by kernel_rfl) (by kernel_rfl) (by kernel_rfl) (fun _ _ _ h => h) (Or.inl ⟨by rfl, fun w hS => by go_simp⟩) (by assumption) ?_
            try simp only [Act.put, List.getElem_toArray, List.getElem_cons_succ, List.getElem_cons_zero, List.setIfInBounds_toArray, List.set_cons_zero, List.set_cons_succ]
            refine wpAnyH_done (by kernel_rfl) ?_ _
            go_wp2_with fail
            go_ret
            exact ⟨rfl, BK⟩
  · skip
    go_simp
    have C_10 := C3.fresh wd 23 (⟨A5, x.payload.length, c5⟩ : Hd) (⟨A6, x.payload.length, c6⟩ : Hd) (⟨some ⟨w.heap.size, 0, none⟩, P.length, P.length + 40⟩ : Hd) wd.heap.size rfl
    have n_10 := below_alloc1 (Below.refl wd.heap.size wd) (Nat.le_refl _) (.cells #[.slice A5 x.payload.length c5, .slice A6 x.payload.length c6, .slice (some ⟨w.heap.size, 0, none⟩) P.length (P.length + 40)] 23)
    have g_10 : wd.heap.size < (wd.alloc (.cells #[.slice A5 x.payload.length c5, .slice A6 x.payload.length c6, .slice (some ⟨w.heap.size, 0, none⟩) P.length (P.length + 40)] 23)).heap.size := by rw [asz]; exact Nat.lt_succ_self _
    have H_10 := (hHeld).trans (below_lower n_10 (Nat.le_trans ZS0.out (hHeld).size))
    refine hK.out _ _ (fun k9 h9 => (H_10).block k9 (hlo k9 h9)) (fun _ => ?_)
    clear hK K
    try simp only [Act.put, List.getElem_toArray, List.getElem_cons_succ, List.getElem_cons_zero, List.setIfInBounds_toArray, List.set_cons_zero, List.set_cons_succ]
    refine wpAnyH_ready (rs := [2]) (by kernel_rfl) (by simp) ?_
    refine AllReadyH.cons rfl (fun K hK => ?_) (AllReadyH.nil)
    · skip
      go_simp
      (go_at_call 30; go_loud (with_reducible refine (payloads_calls _ A16 _ c16 fs3 _ (Z16.out.step H_10).h L16.out (by rw [← L16.out]; omega)).mono ?_); rintro e21 w21 ⟨A21, c21, rfl, hl21, hb21⟩)
      dsimp only
      have b_11 := below_lower hb21 (Nat.le_trans ZS0.out (H_10).size)
      have C_11 := (C_10).keep (hb21.block _ (g_10))
      have H_11 := (H_10).trans b_11
      refine hK.out _ _ (fun k9 h9 => (H_11).block k9 (hlo k9 h9)) (fun _ => ?_)
      clear hK K
      try simp only [Act.put, List.getElem_toArray, List.getElem_cons_succ, List.getElem_cons_zero, List.setIfInBounds_toArray, List.set_cons_zero, List.set_cons_succ]
      refine wpAnyH_ready (rs := [3]) (by kernel_rfl) (by simp) ?_
      refine AllReadyH.cons rfl (fun K hK => ?_) (AllReadyH.nil)
      · skip
        refine step_appendLL lst rfl (.tmp 154) (.tmp 156) rfl w11.heap.size (.slice A20 n20 c20) (fs1.map hdOf ++ fs2.map hdOf) (fs3.map hdOf) rfl (((LCd).new n_10).new hb21) A21 fs3.length c21 rfl (by simp) (fun i y hy => ((hl21).cell i y hy).imp fun _ h => ⟨h.1, h.2.1⟩) (fun h => LL.none0 (h ▸ (hl21))) (by simp; have := L3.out; have := L4.out; have := L16.out; omega) (Nat.le_trans ZS0.out (H_11).size) (fun A22 n22 c22 w22 hn22 hl22 hg22 => ?_)
        clear hn22
        have C_12 := (C_11).keep (hg22.block _ (Nat.lt_of_lt_of_le (g_10) hb21.size) (fun e9 => absurd (LCY.out _ e9.symm) (by have := ((hHeld).size); omega)))
        have H_12 := (H_11).grown hg22 (Nat.le_trans ZS0.out (H_11).size) (fun k hk => (LC.out.lt k hk).1)
        refine hK.out _ _ (fun k9 h9 => (H_12).block k9 (hlo k9 h9)) (fun _ => ?_)
        clear hK K
        try simp only [Act.put, List.getElem_toArray, List.getElem_cons_succ, List.getElem_cons_zero, List.setIfInBounds_toArray, List.set_cons_zero, List.set_cons_succ]
        refine wpAnyH_ready (rs := [10]) (by kernel_rfl) (by simp) ?_
        refine AllReadyH.cons rfl (fun K hK => ?_) (AllReadyH.nil)
        · skip
          refine step_appendLL lst rfl (.tmp 157) (.tmp 163) rfl w11.heap.size (.slice A22 n22 c22) ((fs1.map hdOf ++ fs2.map hdOf) ++ fs3.map hdOf) (([(⟨A5, x.payload.length, c5⟩ : Hd)] ++ [(⟨A6, x.payload.length, c6⟩ : Hd)]) ++ [(⟨some ⟨w.heap.size, 0, none⟩, P.length, P.length + 40⟩ : Hd)]) rfl (hl22) (some ⟨wd.heap.size, 0, none⟩) 3 3 rfl rfl (fun i y hy => ⟨_, rfl, (C_12).at_ i y hy⟩) (fun h => nomatch h) (by simp; have := L3.out; have := L4.out; have := L16.out; omega) (Nat.le_trans ZS0.out (H_12).size) (fun A23 n23 c23 w23 hn23 hl23 hg23 => ?_)
          have HN23 := Lib.hid hn23
          clear hn23
          have H_13 := (H_12).grown hg23 (Nat.le_trans ZS0.out (H_12).size) (fun k hk => ((hl22).lt k hk).1)
          refine hK.out _ _ (fun k9 h9 => (H_13).block k9 (hlo k9 h9)) (fun _ => ?_)
          clear hK K
          try simp only [Act.put, List.getElem_toArray, List.getElem_cons_succ, List.getElem_cons_zero, List.setIfInBounds_toArray, List.set_cons_zero, List.set_cons_succ]
          refine wpAnyH_ready (rs := [11]) (by kernel_rfl) (by simp) ?_
          refine AllReadyH.cons rfl (fun K hK => ?_) (AllReadyH.nil)
          · skip
            go_simp
            (go_at_call 13; go_loud (with_reducible refine (apartF w.heap.size w11.heap.size A23 _ n23 c23 _ (ZA.out.step (H_13)).h (Nat.le_trans ZS0.out (H_13).size) (Nat.le_trans ZB.out.h.size (H_13).size) HN23.out (fun i y hy => (hl23.cell i y hy).imp fun _ h => ⟨h.1, h.2.1, .inr h.2.2.1⟩) (by simp; have := L3.out; have := L4.out; have := L16.out; omega)).mono ?_); rintro e24 w24 ⟨rfl, hb24, hs24⟩)
            dsimp only
            have BK := (ZB.out.step (H_13)).h.trans hb24
            refine hK.out _ _ (fun k9 h9 => (hs24.block k9 (Nat.lt_of_lt_of_le (hlo k9 h9) (Nat.le_trans ZS0.out (H_13).size)) (fun ⟨i9, x9, hx9, hb9⟩ => by have := HNF.out x9 (List.mem_of_getElem? hx9) k9 hb9; omega)).trans ((H_13).block k9 (hlo k9 h9))) (fun _ => ?_)
            clear hK K
            try simp only [Act.put, List.getElem_toArray, List.getElem_cons_succ, List.getElem_cons_zero, List.setIfInBounds_toArray, List.set_cons_zero, List.set_cons_succ]
            refine wpAnyH_take (i := 12) (v := .bool true) rfl (by kernel_rfl) (by kernel_rfl) (by kernel_rfl) (fun _ _ _ h => h) (Or.inl ⟨by rfl, fun w hS => by go_simp⟩) (by assumption) ?_
            try simp only [Act.put, List.getElem_toArray, List.getElem_cons_succ, List.getElem_cons_zero, List.setIfInBounds_toArray, List.set_cons_zero, List.set_cons_succ]
            refine wpAnyH_done (by kernel_rfl) ?_ _
            go_wp2_with fail
            go_ret
            exact ⟨rfl, BK⟩
end Go.Proofs.Ytlcbjjgmkllceaa
