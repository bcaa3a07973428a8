/- The reference's reader of layer 1: TakeWide, TakeRaw. -/
import Derived.Test.YtelecdncdaepnaaReadWords
import Derived.Deep.MidRow
namespace Go.Proofs.Ytelecdncdaepnaa
open Go.RowKit
open WireMath (numS beN)

/-- a reader of the reference in a box of three cells -/
structure Trio (w : World) (b : Nat) (x y z : Value) : Prop where
  c0 : w.cell? ⟨b, 0, none⟩ = some x
  c1 : w.cell? ⟨b, 1, none⟩ = some y
  c2 : w.cell? ⟨b, 2, none⟩ = some z
  fz : ∀ j, w.frozen? ⟨b, j, none⟩ = false
theorem results_rd {fn : Func} {u p : Tmp} (h : fn.results = #[.tmp u, .cell p 105]) (tmps : Array Value) (w : World) (b : Nat) (x y z : Value) (hp : tmps.getD p undef = .pointer (some ⟨b, 0, none⟩)) (ht : Trio w b x y z) :
    (results fn tmps).run Try.prog w = .ok (.tuple #[tmps.getD u undef, .agg #[x, y, z]]) w := by
  have hp' : tmps[p]?.getD undef = .pointer (some ⟨b, 0, none⟩) := by simpa using hp
  have hl := run_loadVar_mid (P := Try.prog) w b 0 105 [x, y, z] _ (fun j v hj => by
    match j, hj with
    | 0, hj => simp at hj; subst hj; simpa using ht.c0
    | 1, hj => simp at hj; subst hj; simpa using ht.c1
    | 2, hj => simp at hj; subst hj; simpa using ht.c2
    | j + 3, hj => simp at hj) Try.underlying105 rfl (by kernel_rfl)
  simp [results, h, hp', asAddr, hl]

theorem Trio.fresh (w : World) (k : Nat) (hk : w.heap.size = k) (x y z : Value) (t : TypeId) : Trio (w.alloc (.cells #[x, y, z] t)) k x y z := by
  subst hk
  have e := heap_alloc_new w (.cells #[x, y, z] t)
  exact ⟨by rw [cell_of_row _ _ _ _ _ _ e]; rfl, by rw [cell_of_row _ _ _ _ _ _ e]; rfl, by rw [cell_of_row _ _ _ _ _ _ e]; rfl, fun _ => frozen_of_row _ _ _ #[x, y, z] t e⟩
theorem Trio.drew {w : World} {b : Nat} {x y z : Value} (h : Trio w b x y z) : Trio w.drew b x y z := ⟨h.c0, h.c1, h.c2, h.fz⟩

theorem Trio.keep {w w' : World} {b : Nat} {x y z : Value} (h : Trio w b x y z) (hb : w'.heap[b]? = w.heap[b]?) : Trio w' b x y z :=
  ⟨(World.cell?_of_block (a := ⟨b, 0, none⟩) hb).trans h.c0, (World.cell?_of_block (a := ⟨b, 1, none⟩) hb).trans h.c1, (World.cell?_of_block (a := ⟨b, 2, none⟩) hb).trans h.c2, fun j => (World.frozen?_of_block (a := ⟨b, j, none⟩) hb).trans (h.fz j)⟩
theorem Trio.lt {w : World} {b : Nat} {x y z : Value} (h : Trio w b x y z) : b < w.heap.size := World.block_lt_of_cell? w _ h.c0
theorem Trio.new {w w' : World} {b : Nat} {x y z : Value} (h : Trio w b x y z) (B : Below w.heap.size w w') : Trio w' b x y z := h.keep (B.block b h.lt)
theorem Trio.put {w : World} {b : Nat} {x y z : Value} (h : Trio w b x y z) (u v t : Value) : Trio (((w.setCell ⟨b, 0, none⟩ u).setCell ⟨b, 1, none⟩ v).setCell ⟨b, 2, none⟩ t) b u v t := by
  have a0 : (w.setCell ⟨b, 0, none⟩ u).cell? ⟨b, 0, none⟩ = some u := World.cell?_setCell_same _ _ _ h.c0
  have a1 : (w.setCell ⟨b, 0, none⟩ u).cell? ⟨b, 1, none⟩ = some y := (World.cell?_setCell_other _ _ _ _ (by simp)).trans h.c1
  have a2 : (w.setCell ⟨b, 0, none⟩ u).cell? ⟨b, 2, none⟩ = some z := (World.cell?_setCell_other _ _ _ _ (by simp)).trans h.c2
  have b1 : ((w.setCell ⟨b, 0, none⟩ u).setCell ⟨b, 1, none⟩ v).cell? ⟨b, 1, none⟩ = some v := World.cell?_setCell_same _ _ _ a1
  have b2 : ((w.setCell ⟨b, 0, none⟩ u).setCell ⟨b, 1, none⟩ v).cell? ⟨b, 2, none⟩ = some z := (World.cell?_setCell_other _ _ _ _ (by simp)).trans a2
  have b0 : ((w.setCell ⟨b, 0, none⟩ u).setCell ⟨b, 1, none⟩ v).cell? ⟨b, 0, none⟩ = some u := (World.cell?_setCell_other _ _ _ _ (by simp)).trans a0
  exact ⟨(World.cell?_setCell_other _ _ _ _ (by simp)).trans b0, (World.cell?_setCell_other _ _ _ _ (by simp)).trans b1, World.cell?_setCell_same _ _ _ b2, fun j => by rw [World.frozen?_setCell, World.frozen?_setCell, World.frozen?_setCell]; exact h.fz j⟩
theorem results_r1 {fn : Func} {p : Tmp} (h : fn.results = #[.cell p 105]) (tmps : Array Value) (w : World) (b : Nat) (x y z : Value) (hp : tmps.getD p undef = .pointer (some ⟨b, 0, none⟩)) (ht : Trio w b x y z) :
    (results fn tmps).run Try.prog w = .ok (.agg #[x, y, z]) w := by
  have hp' : tmps[p]?.getD undef = .pointer (some ⟨b, 0, none⟩) := by simpa using hp
  have hl := run_loadVar_mid (P := Try.prog) w b 0 105 [x, y, z] _ (fun j v hj => by
    match j, hj with
    | 0, hj => simp at hj; subst hj; simpa using ht.c0
    | 1, hj => simp at hj; subst hj; simpa using ht.c1
    | 2, hj => simp at hj; subst hj; simpa using ht.c2
    | j + 3, hj => simp at hj) Try.underlying105 rfl (by kernel_rfl)
  simp [results, h, hp', asAddr, hl]
set_option maxRecDepth 100000 in
theorem fault_calls (A : Option Addr) (n c : Nat) (T E F : Int) (w : World) :
    Calls Try.prog 97 #[.agg #[.slice A n c, .int .i64 T, .int .i64 E], .int .i64 F] w fun e' w' => e' = .returned (.agg #[.slice A n c, .int .i64 T, .int .i64 F]) ∧ Below w.heap.size w w' := by
  go_enter Try.func97, Try.ntmps97
  go_wp2
  have B1 := below_alloc1 (below_alloc1 (Below.refl w.heap.size w) (Nat.le_refl _) (.cells #[.slice A n c, .int .i64 T, .int .i64 F] 105)) (below_alloc1 (Below.refl w.heap.size w) (Nat.le_refl _) _).size (.cells #[.slice A n c, .int .i64 T, .int .i64 F] 105)
  exact bodyPost_ret (results_r1 rfl _ _ (w.heap.size + 1) _ _ _ rfl (Trio.fresh (w.alloc (.cells #[.slice A n c, .int .i64 T, .int .i64 F] 105)) (w.heap.size + 1) (Array.size_push ..) _ _ _ _)) rfl ⟨rfl, B1⟩

set_option maxRecDepth 100000 in
theorem takeWide_calls (A : Option Addr) (P : List UInt8) (c at_ e k : Nat) (N E T : Int) (hN : N = k) (hE : E = e) (hT : T = at_) (w : World) (hp : RB w A c P) (hl : P.length ≤ 9223372036854775807) (hat : at_ ≤ P.length) (hk : k ≤ 8) :
    Calls Try.prog 98 #[.agg #[.slice A P.length c, .int .i64 T, .int .i64 E], .int .i64 N] w fun e' w' => e' = .returned (.tuple #[.int .u64 (numS P at_ e k).1, .agg #[.slice A P.length c, .int .i64 (numS P at_ e k).2.1, .int .i64 (numS P at_ e k).2.2]]) ∧ Below w.heap.size w w' := by
  subst hN; subst hE; subst hT
  by_cases he : e = 0
  · subst he
    by_cases hs : P.length - at_ < k
    · have hU : numS P at_ 0 k = (0, at_, 3) := by unfold WireMath.numS; rw [if_neg (by simp), if_pos hs]
      rw [hU]
      clear hU
      have hb : decide ((P.length : Int) - at_ < k) = true := by rw [decide_eq_true_iff]; omega
      have HA := Lib.hid (below_alloc1 (below_alloc1 (Below.refl w.heap.size w) (Nat.le_refl _) (.cells #[.slice A P.length c, .int .i64 at_, .int .i64 0] 105)) (below_alloc1 (Below.refl w.heap.size w) (Nat.le_refl _) _).size (.cells #[.slice none 0 0, .int .i64 0, .int .i64 0] 105))
      go_enter Try.func98, Try.ntmps98
      go_wp2_with (go_at_call 97; (with_reducible refine (fault_calls A P.length c _ _ _ _).mono ?_); rintro e1 w1 ⟨rfl, hb1⟩; have T1 := (Trio.fresh (w.alloc (.cells #[.slice A P.length c, .int .i64 at_, .int .i64 0] 105)) (w.heap.size + 1) (Array.size_push ..) (.slice none 0 0) (.int .i64 0) (.int .i64 0) 105).new hb1; have z0 := T1.c0; have z1 := T1.c1; have z2 := T1.c2; have f0 := T1.fz 0; have f1 := T1.fz 1; have f2 := T1.fz 2)
      have B1 := HA.out.trans (hb1.mono HA.out.size)
      exact bodyPost_ret (results_rd rfl _ _ (w.heap.size + 1) _ _ _ rfl (T1.put _ _ _)) rfl ⟨rfl, ((B1.setCell (Nat.le_succ _) _).setCell (Nat.le_succ _) _).setCell (Nat.le_succ _) _⟩
    · have hb : decide ((P.length : Int) - at_ < k) = false := by rw [decide_eq_false_iff_not]; omega
      have hB := below_alloc1 (below_alloc1 (Below.refl w.heap.size w) (Nat.le_refl _) (.cells #[.slice A P.length c, .int .i64 at_, .int .i64 0] 105)) (below_alloc1 (Below.refl w.heap.size w) (Nat.le_refl _) _).size (.cells #[.slice none 0 0, .int .i64 0, .int .i64 0] 105)
      have HP := Lib.hid (hp.new hB)
      have HB := Lib.hid hB
      clear hB
      go_enter Try.func98, Try.ntmps98
      go_wp2
      go_loop [6, 7] (fun v i => ∃ j : Nat, j ≤ k ∧ i = .int .i64 j ∧ v = .int .u64 ((beN ((P.drop at_).take j) : Nat) : Int)) (fun _ i => k - (intOf i).toNat)
      case atStart => exact ⟨0, by omega, rfl, rfl⟩
      case round =>
        obtain ⟨j, hj, rfl, rfl⟩ := hrel
        by_cases hlt : j < k
        · have hjl : at_ + j < P.length := by omega
          obtain ⟨a, rfl, hc⟩ := HP.out.at_ (at_ + j) hjl
          have hbe : beN ((P.drop at_).take (j + 1)) = beN ((P.drop at_).take j) * 256 + P[at_ + j].toNat := by
            rw [List.take_succ_eq_append_getElem (by simp; omega), WireMath.beN_snoc, List.getElem_drop]
          have hlt7 : beN ((P.drop at_).take j) < 256 ^ 7 := WireMath.beN_lt _ 7 (by simp; omega)
          have hu : uB P[at_ + j] = ((P[at_ + j].toNat : Nat) : Int) := rfl
          have hr := P[at_ + j].toNat_lt
          rw [hu] at hc
          generalize P[at_ + j].toNat = u at *
          generalize beN ((P.drop at_).take j) = x at *
          have HBE := Lib.hid hbe
          have hx : x * 256 + u ≤ 18446744073709551615 := by omega
          have i0 : (0 : Int) ≤ (at_ : Int) + j := by omega
          have i1 : (at_ : Int) + j < P.length := by omega
          clear hbe hu
          go_wp2
          go_round
          case rel => exact ⟨j + 1, by omega, by go_num, by rw [HBE.out]; go_num⟩
          case measure => simp [intOf]; omega
        · obtain rfl : j = k := by omega
          have hU : Hid (numS P at_ 0 j = (beN ((P.drop at_).take j), at_ + j, 0)) := Lib.hid (by unfold WireMath.numS; rw [if_neg (by simp), if_neg hs])
          go_wp2
          go_region
          go_wp2
          have B1 := below_alloc1 (below_alloc1 (Below.refl w.heap.size w) (Nat.le_refl _) (.cells #[.slice A P.length c, .int .i64 ((at_ : Int) + j), .int .i64 0] 105)) (below_alloc1 (Below.refl w.heap.size w) (Nat.le_refl _) _).size (.cells #[.slice A P.length c, .int .i64 ((at_ : Int) + j), .int .i64 0] 105)
          exact bodyPost_ret (results_rd rfl _ _ (w.heap.size + 1) _ _ _ rfl (Trio.fresh (w.alloc (.cells #[.slice A P.length c, .int .i64 ((at_ : Int) + j), .int .i64 0] 105)) (w.heap.size + 1) (Array.size_push ..) _ _ _ _).drew) rfl ⟨by rw [hU.out]; rfl, B1.drew⟩
  · have hb : ((e : Int) != 0) = true := by rw [bne_iff_ne]; omega
    have hU : numS P at_ e k = (0, at_, e) := by unfold WireMath.numS; rw [if_pos he]
    rw [hU]
    clear hU he
    go_enter Try.func98, Try.ntmps98
    go_wp2
    go_region
    all_goals go_wp2
    have B1 := below_alloc1 (below_alloc1 (Below.refl w.heap.size w) (Nat.le_refl _) (.cells #[.slice A P.length c, .int .i64 at_, .int .i64 e] 105)) (below_alloc1 (Below.refl w.heap.size w) (Nat.le_refl _) _).size (.cells #[.slice A P.length c, .int .i64 at_, .int .i64 e] 105)
    exact bodyPost_ret (results_rd rfl _ _ (w.heap.size + 1) _ _ _ rfl (Trio.fresh (w.alloc (.cells #[.slice A P.length c, .int .i64 at_, .int .i64 e] 105)) (w.heap.size + 1) (Array.size_push ..) _ _ _ _).drew) rfl ⟨rfl, B1.drew⟩
end Go.Proofs.Ytelecdncdaepnaa
