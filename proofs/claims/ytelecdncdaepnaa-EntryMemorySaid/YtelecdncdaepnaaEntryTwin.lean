/- The walks of layer 5's laws: copies of entries, comparing. -/
import Derived.Test.YtelecdncdaepnaaEntryWalk
namespace Go.Proofs.Ytelecdncdaepnaa
open Go.RowKit

/-- a copy of an entry in new memory -/
structure NewE (w w' : World) (e : En) (a : EnA) : Prop where
  K : OB w' w.heap.size 5 (.slice a.KA e.K.length a.kc) e.K
  V : OB w' w.heap.size 5 (.slice a.VA e.V.length a.vc) e.V
  below : Below w.heap.size w w'
theorem NewE.ok {w w' : World} {e : En} {a : EnA} (h : NewE w w' e a) (hk : e.k ≤ 255) : EnOk w' e a := ⟨hk, h.K.rb, h.V.rb⟩
theorem put3_below {B : Nat} {w : World} {g : Nat} (h : B ≤ g) (x y z : Value) : Below B w (((w.setCell ⟨g, 0, none⟩ x).setCell ⟨g, 1, none⟩ y).setCell ⟨g, 2, none⟩ z) := (((Below.refl B w).setCell h _).setCell h _).setCell h _
theorem OB.put3 {w : World} {base e g : Nat} {v : Value} {p : List UInt8} (h : OB w base e v p) (hg : v.ownBlock ≠ some g) (x y z : Value) : OB (((w.setCell ⟨g, 0, none⟩ x).setCell ⟨g, 1, none⟩ y).setCell ⟨g, 2, none⟩ z) base e v p :=
  ((h.keep (setCell_grown w g 0 x) (.inr hg)).keep (setCell_grown _ g 1 y) (.inr hg)).keep (setCell_grown _ g 2 z) (.inr hg)

set_option maxRecDepth 100000 in
theorem twinEntry_calls (e : En) (a : EnA) (n m : Nat) (hn : n = e.K.length) (hm : m = e.V.length) (w : World) (hok : EnOk w e a) (h1 : e.K.length ≤ 140737488355328) (h2 : e.V.length ≤ 140737488355328) :
    Calls Try.prog 23 #[.agg #[.int .u8 e.k, .slice a.KA n a.kc, .slice a.VA m a.vc]] w fun r w' => ∃ a', r = .returned (.agg #[.int .u8 e.k, .slice a'.KA e.K.length a'.kc, .slice a'.VA e.V.length a'.vc]) ∧ NewE w w' e a' := by
  subst hn; subst hm
  have HB0 := Lib.hid (below_alloc1 (Below.refl w.heap.size w) (Nat.le_refl _) (.cells #[.int .u8 e.k, .slice a.KA e.K.length a.kc, .slice a.VA e.V.length a.vc] 26))
  have HT0 := Lib.hid (Trio.fresh w w.heap.size rfl (.int .u8 e.k) (.slice a.KA e.K.length a.kc) (.slice a.VA e.V.length a.vc) 26)
  have HB := Lib.hid (belowA HB0.out (.cells #[.int .u8 0, .slice none 0 0, .slice none 0 0] 26))
  have HT := Lib.hid (HT0.out.new (below_alloc1 (Below.refl _ _) (Nat.le_refl _) (.cells #[.int .u8 0, .slice none 0 0, .slice none 0 0] 26)))
  have HR := Lib.hid (Trio.fresh (w.alloc (.cells #[.int .u8 e.k, .slice a.KA e.K.length a.kc, .slice a.VA e.V.length a.vc] 26)) (w.heap.size + 1) (asz _ _) (.int .u8 0) (.slice none 0 0) (.slice none 0 0) 26)
  have HK := Lib.hid (hok.K.new HB.out)
  have HV := Lib.hid (hok.V.new HB.out)
  have x0 := HT.out.c0
  have x1 := HT.out.c1
  have x2 := HT.out.c2
  go_enter Try.func23, Try.ntmps23
  go_wp2
  go_region_held3 (fun w' => w'.cell? ⟨w.heap.size, 0, none⟩ = some (.int .u8 e.k) ∧ w'.cell? ⟨w.heap.size, 1, none⟩ = some (.slice a.KA e.K.length a.kc) ∧ w'.cell? ⟨w.heap.size, 2, none⟩ = some (.slice a.VA e.V.length a.vc)) (go_keep) (first
    | (go_at_call 20; (with_reducible refine (twinR a.KA e.K _ a.kc _ HK.out.drewE rfl h1).mono ?_); rintro e1 w1 ⟨A1, c1, rfl, hn1⟩; have T1 := HT.out.drew.new hn1.below; have y0 := T1.c0; have y1 := T1.c1; have y2 := T1.c2; have R1 := HR.out.drew.new hn1.below; have B1 := Lib.hid (below_then HB.out.drew hn1.below); have tK := trivial)
    | (go_at_call 20; (with_reducible refine (twinR a.VA e.V _ a.vc _ HV.out.drewE rfl h2).mono ?_); rintro e1 w1 ⟨A1, c1, rfl, hn1⟩; have T1 := HT.out.drew.new hn1.below; have y0 := T1.c0; have y1 := T1.c1; have y2 := T1.c2; have R1 := HR.out.drew.new hn1.below; have B1 := Lib.hid (below_then HB.out.drew hn1.below); have tV := trivial)
    | (go_at_call 20; (with_reducible refine (twinR a.VA e.V _ a.vc _ (hok.V.new B1.out) rfl h2).mono ?_); rintro e2 w2 ⟨A2, c2, rfl, hn2⟩; have T2 := T1.new hn2.below; have R2 := R1.new hn2.below; have y0 := T2.c0; have y1 := T2.c1; have y2 := T2.c2; have z0 := R2.c0; have z1 := R2.c1; have z2 := R2.c2; have f0 := R2.fz 0; have f1 := R2.fz 1; have f2 := R2.fz 2; have hz := R2.lt; have B2 := Lib.hid (below_then B1.out hn2.below); have hKo := (hn1.own.new hn2.below).mono HB.out.drew.size; have hVo := hn2.own.mono B1.out.size; go_loud (have fk : Hid ((Value.slice A1 e.K.length c1).ownBlock ≠ some (w.heap.size + 1)) := Lib.hid (fun e9 => by have h9 := Nat.le_trans (Nat.le_of_eq (asz2 w (.cells #[.int .u8 e.k, .slice a.KA e.K.length a.kc, .slice a.VA e.V.length a.vc] 26) (.cells #[.int .u8 0, .slice none 0 0, .slice none 0 0] 26)).symm) (hn1.own.at_base (w.heap.size + 1) e9).1; omega)); go_loud (have fv : Hid ((Value.slice A2 e.V.length c2).ownBlock ≠ some (w.heap.size + 1)) := Lib.hid (fun e9 => by have h9 := (hn2.own.at_base (w.heap.size + 1) e9).1; have h8 := R1.lt; omega)))
    | (go_at_call 20; (with_reducible refine (twinR a.KA e.K _ a.kc _ (hok.K.new B1.out) rfl h1).mono ?_); rintro e2 w2 ⟨A2, c2, rfl, hn2⟩; have T2 := T1.new hn2.below; have R2 := R1.new hn2.below; have y0 := T2.c0; have y1 := T2.c1; have y2 := T2.c2; have z0 := R2.c0; have z1 := R2.c1; have z2 := R2.c2; have f0 := R2.fz 0; have f1 := R2.fz 1; have f2 := R2.fz 2; have hz := R2.lt; have B2 := Lib.hid (below_then B1.out hn2.below); have hVo := (hn1.own.new hn2.below).mono HB.out.drew.size; have hKo := hn2.own.mono B1.out.size; go_loud (have fv : Hid ((Value.slice A1 e.V.length c1).ownBlock ≠ some (w.heap.size + 1)) := Lib.hid (fun e9 => by have h9 := Nat.le_trans (Nat.le_of_eq (asz2 w (.cells #[.int .u8 e.k, .slice a.KA e.K.length a.kc, .slice a.VA e.V.length a.vc] 26) (.cells #[.int .u8 0, .slice none 0 0, .slice none 0 0] 26)).symm) (hn1.own.at_base (w.heap.size + 1) e9).1; omega)); go_loud (have fk : Hid ((Value.slice A2 e.K.length c2).ownBlock ≠ some (w.heap.size + 1)) := Lib.hid (fun e9 => by have h9 := (hn2.own.at_base (w.heap.size + 1) e9).1; have h8 := R1.lt; omega))))
  all_goals
    go_wp2
    first
      | exact bodyPost_ret (results_en rfl _ _ (w.heap.size + 1) _ _ _ rfl (R2.put (.int .u8 e.k) (.slice A1 e.K.length c1) (.slice A2 e.V.length c2)).c0 (R2.put (.int .u8 e.k) (.slice A1 e.K.length c1) (.slice A2 e.V.length c2)).c1 (R2.put (.int .u8 e.k) (.slice A1 e.K.length c1) (.slice A2 e.V.length c2)).c2) rfl ⟨⟨A1, c1, A2, c2⟩, rfl, hKo.put3 fk.out _ _ _, hVo.put3 fv.out _ _ _, B2.out.trans (put3_below (by omega) _ _ _)⟩
      | exact bodyPost_ret (results_en rfl _ _ (w.heap.size + 1) _ _ _ rfl (R2.put (.int .u8 e.k) (.slice A2 e.K.length c2) (.slice A1 e.V.length c1)).c0 (R2.put (.int .u8 e.k) (.slice A2 e.K.length c2) (.slice A1 e.V.length c1)).c1 (R2.put (.int .u8 e.k) (.slice A2 e.K.length c2) (.slice A1 e.V.length c1)).c2) rfl ⟨⟨A2, c2, A1, c1⟩, rfl, hKo.put3 fk.out _ _ _, hVo.put3 fv.out _ _ _, B2.out.trans (put3_below (by omega) _ _ _)⟩
end Go.Proofs.Ytelecdncdaepnaa
