import Derived.Test.YtlcbjjgmkllceaaQScanWalk
import Derived.Test.YtlcbjjgmkllceaaQDocScanWalk
/- FrameScans: alike, and the law. -/
namespace Go.Proofs.Ytlcbjjgmkllceaa
open Go.RowKit

theorem cell_new {w w' : World} {a : Addr} {v : Value} (hb : Below w.heap.size w w') (h : w.cell? a = some v) : w'.cell? a = some v := (hb.cell (World.block_lt_of_cell? w _ h)).trans h
set_option maxHeartbeats 400000 in
set_option maxRecDepth 100000 in
theorem alike_calls (b1 b2 : Nat) (A1 A2 : Option Addr) (n1 n2 c1 c2 : Nat) (fs gs : List FrV) (w : World) (h1 : FL w b1 43 (.slice A1 n1 c1) fs) (h2 : FL w b2 61 (.slice A2 n2 c2) gs) (he : frOf fs = frOf gs) (hn1 : n1 = fs.length) (hn2 : n2 = gs.length) (hl : fs.length ≤ 9223372036854775807) :
    Calls Try.prog 29 #[.slice A1 n1 c1, .slice A2 n2 c2] w fun e w' => e = .returned (.bool true) ∧ Below w.heap.size w w' := by
  have hlen : gs.length = fs.length := by have := congrArg List.length he; simpa [frOf] using this.symm
  rw [hlen] at hn2
  subst hn1; subst hn2
  have HE := Lib.hid he
  have HLN := Lib.hid hlen
  clear he hlen
  go_enter Try.func29, Try.ntmps29
  go_wp2
  go_loopw [5, 13] (fun _ iv wr => ∃ i : Nat, i ≤ fs.length ∧ iv = .int .i64 i ∧ Below w.heap.size w wr) (fun _ i _ => fs.length - (intOf i).toNat)
  case atStart => exact ⟨0, Nat.zero_le _, rfl, Below.refl _ _⟩
  case round =>
    obtain ⟨i, hi, rfl, HB⟩ := hrel
    by_cases hlt : i < fs.length
    · obtain ⟨f, hf⟩ : ∃ f, fs[i]? = some f := ⟨_, List.getElem?_eq_getElem hlt⟩
      obtain ⟨g, hg⟩ : ∃ g, gs[i]? = some g := ⟨_, List.getElem?_eq_getElem (by have := HLN.out; omega)⟩
      have hfg : f.place = g.place ∧ f.pay = g.pay := by
        have := congrArg (·[i]?) HE.out
        simp only [frOf, List.getElem?_map, hf, hg, Option.map_some, Option.some.injEq, Prod.mk.injEq] at this
        exact this
      have H1 := h1.new HB
      have H2 := h2.new HB
      obtain ⟨p1, d1, e1, _, k0, k1⟩ := H1.at_ i f hf
      obtain ⟨p2, d2, e2, _, k2, k3⟩ := H2.at_ i g hg
      injection e1 with e1a e1b e1c
      injection e2 with e2a e2b e2c
      subst e1a; subst e1c; subst e2a; subst e2c
      have ho1 := (H1.own f (List.mem_of_getElem? hf)).rb
      have ho2 := (H2.own g (List.mem_of_getElem? hg)).rb
      have HFG := Lib.hid (show (decide (f.place = g.place) && (f.pay == g.pay)) = true by simp [hfg.1, hfg.2])
      clear hfg hf hg e1b e2b
      simp only [FrV.val] at k1 k3
      go_wp2
      go_region_held3 (fun w' => w'.cell? ⟨p1, i * 2, none⟩ = some (.int .u64 f.place) ∧ w'.cell? ⟨p1, i * 2 + 1, none⟩ = some (.slice f.A f.pay.length f.c) ∧ w'.cell? ⟨p2, i * 2, none⟩ = some (.int .u64 g.place) ∧ w'.cell? ⟨p2, i * 2 + 1, none⟩ = some (.slice g.A g.pay.length g.c)) (go_keep) (first
        | (go_at_call 19; go_loud (with_reducible refine (fsameN f.place g.place _ _ f.A g.A f.pay g.pay _ _ f.c g.c _ (ho1.new (below_drew _ _)) (ho2.new (below_drew _ _)) rfl rfl true HFG.out rfl rfl).mono ?_); rintro e4 w4 ⟨rfl, hb4⟩; have hb5 := (below_drew _ _).trans hb4; have k0 := cell_new hb5 k0; have k1 := cell_new hb5 k1; have k2 := cell_new hb5 k2; have k3 := cell_new hb5 k3))
      go_wp2
      go_roundw
      case rel => exact ⟨i + 1, by omega, by go_num, below_then (HB.drew) hb4⟩
      case measure => simp [intOf]; omega
    · obtain rfl : i = fs.length := by omega
      clear hlt
      go_wp2
      go_ret
      exact ⟨rfl, HB⟩
end Go.Proofs.Ytlcbjjgmkllceaa
