import Derived.Test.YtlcbjjgmkllceaaQWireTaken
/- The laws' own calls of layer 1: tells. -/
namespace Go.Proofs.Ytlcbjjgmkllceaa
open Go.RowKit

set_option maxRecDepth 100000 in
theorem tells_calls (F : Nat → Prop) (b : Nat) (P : List UInt8) (at_ e : Nat) (A : Option Addr) (l c : Nat) (T E : Int) (hT : T = at_) (hE : E = e) (hll : l = P.length) (w : World) (hr : Rd w F b P at_ e) :
    Calls Try.prog 47 #[.pointer (some ⟨b, 0, none⟩), .agg #[.slice A l c, .int .i64 T, .int .i64 E]] w fun e' w' => e' = .returned (.bool true) ∧ Below w.heap.size w w' := by
  subst hll; subst hT; subst hE
  have HB1 := Lib.hid (below_alloc1 (Below.refl w.heap.size w) (Nat.le_refl _) (.cells #[.slice A P.length c, .int .i64 at_, .int .i64 e] 86))
  have HTr := Lib.hid ((Trio.fresh w w.heap.size rfl (.slice A P.length c) (.int .i64 at_) (.int .i64 e) 86))
  have HR := Lib.hid (hr.new HB1.out)
  have hle := hr.le
  have d0 := HTr.out.c0
  have d1 := HTr.out.c1
  have d2 := HTr.out.c2
  go_enter Try.func47, Try.ntmps47
  go_wp2
  go_region_held3 (fun w' => w'.cell? ⟨w.heap.size, 0, none⟩ = some (.slice A P.length c) ∧ w'.cell? ⟨w.heap.size, 1, none⟩ = some (.int .i64 at_) ∧ w'.cell? ⟨w.heap.size, 2, none⟩ = some (.int .i64 e)) (go_keep) (first
    | (go_at_call 37; (with_reducible refine (at_calls F b P at_ e _ (HR.out.new (below_drew _ _))).mono ?_); rintro e1 w1 ⟨rfl, rfl⟩)
    | (go_at_call 38; (with_reducible refine (err_calls F b P at_ e _ (HR.out.new (below_drew _ _))).mono ?_); rintro e1 w1 ⟨rfl, rfl⟩)
    | (go_at_call 39; (with_reducible refine (done_calls F b P at_ e _ (HR.out.new (below_drew _ _))).mono ?_); rintro e3 w3 ⟨rfl, hd3⟩; have T3 := HTr.out.new ((below_drew _ _).trans (hd3.below _)); have d0 := T3.c0; have d1 := T3.c1; have d2 := T3.c2)
    | (go_at_call 77; (with_reducible refine (refdone_calls A P P.length c at_ e _ _ rfl rfl _ rfl hle).mono ?_); rintro e4 w4 ⟨rfl, hb4⟩; have T4 := T3.new hb4; have d0 := T4.c0; have d1 := T4.c1; have d2 := T4.c2))
  go_wp2
  go_ret
  exact ⟨rfl, below_then ((HB1.out.drew).trans (hd3.below _)) hb4⟩
end Go.Proofs.Ytlcbjjgmkllceaa
