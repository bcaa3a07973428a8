import Derived.Test.YtpmnnnbkbcpgjaaGreatDoorQBe
import Derived.Test.YtpmnnnbkbcpgjaaGreatDoorQBd
import Derived.Test.YtpmnnnbkbcpgjaaGreatDoorQBc
import Derived.Test.YtpmnnnbkbcpgjaaGreatDoorQWireCut
import Derived.Deep.RegionHeld3
/- Layer 5 through the theorems: the small functions of notarytop: width, short, fits, cut, sameEntry. -/
namespace Go.Proofs.YtpmnnnbkbcpgjaaGreatDoor
open Go.RowKit
open WireMath (numS beN rawS blobS uvarS grpL uvarL wideL)

theorem topwidth_calls (x : Nat) (X : Int) (hX : X = x) (hx : x ≤ 255) (w : World) : Calls Tryz.prog 37 #[.int .u8 X] w fun e w' => e = .returned (.int .i64 ((1 + x % 32 : Nat) : Int)) ∧ w = w' := by
  subst hX
  go_enter Tryz.func37, Tryz.ntmps37
  go_wp2
  go_ret
  exact ⟨ret_int (by simp), rfl⟩
theorem topshort_calls (A : Option Addr) (p : List UInt8) (n c m : Nat) (M : Int) (hM : M = m) (w : World) (hp : RB w A c p) (hn : n = p.length) (_hm : m ≤ 1000) :
    Calls Tryz.prog 117 #[.slice A n c, .int .i64 M] w fun e w' => e = .returned (.slice A (p.take m).length c) ∧ w = w' := by
  subst hM hn
  by_cases h : m < p.length
  · have hcut := fun w' : World => run_cut_h w' A p.length c m m rfl (by have := hp.len; omega)
    have HL := Lib.hid (show (p.take m).length = m by rw [List.length_take]; omega)
    go_enter Tryz.func117, Tryz.ntmps117
    go_wp2
    go_ret
    exact ⟨by rw [HL.out]; rfl, rfl⟩
  · have HL := Lib.hid (show (p.take m).length = p.length by rw [List.length_take]; omega)
    go_enter Tryz.func117, Tryz.ntmps117
    go_wp2
    go_ret
    exact ⟨by rw [HL.out]; rfl, rfl⟩
theorem topshortN (A : Option Addr) (p : List UInt8) (n c m : Nat) (M : Int) (hM : M = m) (w : World) (hp : RB w A c p) (hn : n = p.length) (hm : m ≤ 1000) (N : Nat) (hN : N = (p.take m).length) :
    Calls Tryz.prog 117 #[.slice A n c, .int .i64 M] w fun e w' => e = .returned (.slice A N c) ∧ w = w' := by
  subst hN; exact topshort_calls A p n c m M hM w hp hn hm
/-- an entry that may be appended -/
def fitF (e : En) : En := if e.k % 2 = 0 then ⟨2, e.K.take 64, []⟩ else ⟨1, e.K.take 64, e.V.take 256⟩
theorem fitF_chk (e : En) : chkF (fitF e) = 0 := by
  have h1 : (e.K.take 64).length ≤ 64 := List.length_take_le _ _
  have h2 : (e.V.take 256).length ≤ 256 := List.length_take_le _ _
  unfold fitF chkF
  split
  · simp only [List.length_nil]
    rw [if_neg (by omega), if_neg (by omega)]
  · simp only
    rw [if_neg (by omega), if_neg (by omega)]
def fitA (e : En) (a : EnA) : EnA := if e.k % 2 = 0 then ⟨a.KA, a.kc, none, 0⟩ else ⟨a.KA, a.kc, a.VA, a.vc⟩
theorem fit_ok (w : World) (e : En) (a : EnA) (h : EnOk w e a) : EnOk w (fitF e) (fitA e a) := by
  unfold fitF fitA
  split
  · exact ⟨by show 2 ≤ 255; omega, h.K.take 64, RB.void w⟩
  · exact ⟨by show 1 ≤ 255; omega, h.K.take 64, h.V.take 256⟩
set_option maxHeartbeats 400000 in
set_option maxRecDepth 100000 in
theorem topfits_calls (e : En) (a : EnA) (n m : Nat) (hn : n = e.K.length) (hm : m = e.V.length) (w : World) (hok : EnOk w e a) :
    Calls Tryz.prog 67 #[.agg #[.int .u8 e.k, .slice a.KA n a.kc, .slice a.VA m a.vc]] w fun r w' => r = .returned (.agg #[.int .u8 (fitF e).k, .slice (fitA e a).KA (fitF e).K.length (fitA e a).kc, .slice (fitA e a).VA (fitF e).V.length (fitA e a).vc]) ∧ Below w.heap.size w w' := by
  subst hn hm
  have nw : ∀ (w : World) (o : Obj), Below w.heap.size w (w.alloc o) := fun w o => below_alloc1 (Below.refl _ _) (Nat.le_refl _) o
  have T0 := Lib.hid ((Trio.fresh w w.heap.size rfl (.int .u8 e.k) (.slice a.KA e.K.length a.kc) (.slice a.VA e.V.length a.vc) 72).new (nw _ (.cells #[.int .u8 0, .slice none 0 0, .slice none 0 0] 72)))
  have S0 := Lib.hid (Trio.fresh (w.alloc (.cells #[.int .u8 e.k, .slice a.KA e.K.length a.kc, .slice a.VA e.V.length a.vc] 72)) (w.heap.size + 1) (asz _ _) (.int .u8 0) (.slice none 0 0) (.slice none 0 0) 72)
  have B0 := Lib.hid (belowA (nw w (.cells #[.int .u8 e.k, .slice a.KA e.K.length a.kc, .slice a.VA e.V.length a.vc] 72)) (.cells #[.int .u8 0, .slice none 0 0, .slice none 0 0] 72))
  have OK0 := Lib.hid (hok.new B0.out)
  have h64 := Lib.hid (show (64 : Int) = ((64 : Nat) : Int) from rfl)
  have h256 := Lib.hid (show (256 : Int) = ((256 : Nat) : Int) from rfl)
  clear nw
  by_cases hk : e.k % 2 = 0
  · have hkb : (((e.k : Int) % 2) == 0) = true := by rw [beq_iff_eq]; omega
    have e1 : fitF e = ⟨2, e.K.take 64, []⟩ := by unfold fitF; rw [if_pos hk]
    have e2 : fitA e a = ⟨a.KA, a.kc, none, 0⟩ := by unfold fitA; rw [if_pos hk]
    rw [e1, e2]
    obtain ⟨N, hN⟩ : ∃ N, N = (e.K.take 64).length := ⟨_, rfl⟩
    simp only [← hN]
    have HN := Lib.hid hN
    have x0 := T0.out.c0
    have x1 := T0.out.c1
    have s0 := S0.out.c0
    have s1 := S0.out.c1
    have s2 := S0.out.c2
    have f0 := S0.out.fz 0
    have f1 := S0.out.fz 1
    have f2 := S0.out.fz 2
    clear e1 e2 hk hN
    go_enter Tryz.func67, Tryz.ntmps67
    go_wp2_with (first
      | (go_at_call 117; (with_reducible refine (topshortN a.KA e.K _ a.kc 64 64 h64.out _ OK0.out.K rfl (by omega) N HN.out).mono ?_); rintro r1 w1 ⟨rfl, rfl⟩))
    have FX := Trio.fresh (w.alloc (.cells #[.int .u8 e.k, .slice a.KA e.K.length a.kc, .slice a.VA e.V.length a.vc] 72)) (w.heap.size + 1) (asz _ _) (.int .u8 2) (.slice a.KA N a.kc) (.slice none 0 0) 72
    exact bodyPost_ret (results_en rfl _ _ (w.heap.size + 1) _ _ _ rfl FX.c0 FX.c1 FX.c2) rfl ⟨rfl, belowA (below_alloc1 (Below.refl _ _) (Nat.le_refl _) (.cells #[.int .u8 e.k, .slice a.KA e.K.length a.kc, .slice a.VA e.V.length a.vc] 72)) _⟩
  · have hkb : (((e.k : Int) % 2) == 0) = false := by rw [beq_eq_false_iff_ne]; omega
    have e1 : fitF e = ⟨1, e.K.take 64, e.V.take 256⟩ := by unfold fitF; rw [if_neg hk]
    have e2 : fitA e a = ⟨a.KA, a.kc, a.VA, a.vc⟩ := by unfold fitA; rw [if_neg hk]
    rw [e1, e2]
    obtain ⟨N, hN⟩ : ∃ N, N = (e.K.take 64).length := ⟨_, rfl⟩
    obtain ⟨M, hM⟩ : ∃ M, M = (e.V.take 256).length := ⟨_, rfl⟩
    simp only [← hN, ← hM]
    have HN := Lib.hid hN
    have HM := Lib.hid hM
    have x0 := T0.out.c0
    have x1 := T0.out.c1
    have x2 := T0.out.c2
    have s0 := S0.out.c0
    have s1 := S0.out.c1
    have s2 := S0.out.c2
    have f0 := S0.out.fz 0
    have f1 := S0.out.fz 1
    have f2 := S0.out.fz 2
    clear e1 e2 hk hN hM
    go_enter Tryz.func67, Tryz.ntmps67
    go_wp2
    go_region_held3 (fun w' => w'.cell? ⟨w.heap.size, 1, none⟩ = some (.slice a.KA e.K.length a.kc) ∧ w'.cell? ⟨w.heap.size, 2, none⟩ = some (.slice a.VA e.V.length a.vc)) (go_keep) (first
      | (go_at_call 117; (with_reducible refine (topshortN a.KA e.K _ a.kc 64 64 h64.out _ OK0.out.K.drewE rfl (by omega) N HN.out).mono ?_); rintro r1 w1 ⟨rfl, rfl⟩)
      | (go_at_call 117; (with_reducible refine (topshortN a.VA e.V _ a.vc 256 256 h256.out _ OK0.out.V.drewE rfl (by omega) M HM.out).mono ?_); rintro r1 w1 ⟨rfl, rfl⟩))
    all_goals
      go_wp2
      have FX := (Trio.fresh (w.alloc (.cells #[.int .u8 e.k, .slice a.KA e.K.length a.kc, .slice a.VA e.V.length a.vc] 72)) (w.heap.size + 1) (asz _ _) (.int .u8 1) (.slice a.KA N a.kc) (.slice a.VA M a.vc) 72).drew
      exact bodyPost_ret (results_en rfl _ _ (w.heap.size + 1) _ _ _ rfl FX.c0 FX.c1 FX.c2) rfl ⟨rfl, (belowA (below_alloc1 (Below.refl _ _) (Nat.le_refl _) (.cells #[.int .u8 e.k, .slice a.KA e.K.length a.kc, .slice a.VA e.V.length a.vc] 72)) _).drew⟩
theorem topsame_calls (A B : Option Addr) (p q : List UInt8) (n m c d : Nat) (w : World) (hp : RB w A c p) (hq : RB w B d q) (hn : n = p.length) (hm : m = q.length) :
    Calls Tryz.prog 118 #[.slice A n c, .slice B m d] w fun e w' => e = .returned (.bool (p == q)) ∧ w = w' := by
  have h1 := run_str w A n c p hp hn
  have h2 := run_str w B m d q hq hm
  have hs := Lib.hid (strOf_beq p q)
  clear hn hm
  generalize strOf p = x at *
  generalize strOf q = y at *
  go_enter Tryz.func118, Tryz.ntmps118
  go_wp2
  go_ret
  exact ⟨ret_bool hs.out, rfl⟩
theorem topsameN (A B : Option Addr) (p : List UInt8) (n m c d : Nat) (w : World) (hp : RB w A c p) (hq : RB w B d p) (hn : n = p.length) (hm : m = p.length) :
    Calls Tryz.prog 118 #[.slice A n c, .slice B m d] w fun e w' => e = .returned (.bool true) ∧ w = w' := by
  have := topsame_calls A B p p n m c d w hp hq hn hm
  rw [beq_self_eq_true] at this; exact this
set_option maxRecDepth 100000 in
theorem topsameE_calls (e : En) (a d : EnA) (n m n' m' : Nat) (hn : n = e.K.length) (hm : m = e.V.length) (hn' : n' = e.K.length) (hm' : m' = e.V.length) (w : World) (ha : EnOk w e a) (hd : EnOk w e d) :
    Calls Tryz.prog 68 #[.agg #[.int .u8 e.k, .slice a.KA n a.kc, .slice a.VA m a.vc], .agg #[.int .u8 e.k, .slice d.KA n' d.kc, .slice d.VA m' d.vc]] w fun r w' => r = .returned (.bool true) ∧ Below w.heap.size w w' := by
  subst hn; subst hm; subst hn'; subst hm'
  have nw : ∀ (w : World) (o : Obj), Below w.heap.size w (w.alloc o) := fun w o => below_alloc1 (Below.refl _ _) (Nat.le_refl _) o
  have B0 := Lib.hid (belowA (nw w (.cells #[.int .u8 e.k, .slice a.KA e.K.length a.kc, .slice a.VA e.V.length a.vc] 72)) (.cells #[.int .u8 e.k, .slice d.KA e.K.length d.kc, .slice d.VA e.V.length d.vc] 72))
  have A0 := Lib.hid (ha.new B0.out)
  have D0 := Lib.hid (hd.new B0.out)
  have hee : ((e.k : Int) == e.k) = true := beq_self_eq_true _
  have HK := Lib.hid (show (e.K == e.K) = true from beq_self_eq_true _)
  have HV := Lib.hid (show (e.V == e.V) = true from beq_self_eq_true _)
  clear nw
  go_enter Tryz.func68, Tryz.ntmps68
  go_wp2_with (first
    | (go_at_call 118; (with_reducible refine (topsameN a.KA d.KA e.K _ _ a.kc d.kc _ A0.out.K D0.out.K rfl rfl).mono ?_); rintro r1 w1 ⟨rfl, rfl⟩)
    | (go_at_call 118; (with_reducible refine (topsameN a.VA d.VA e.V _ _ a.vc d.vc _ A0.out.V D0.out.V rfl rfl).mono ?_); rintro r2 w2 ⟨rfl, rfl⟩))
  go_ret
  exact ⟨rfl, B0.out⟩
end Go.Proofs.YtpmnnnbkbcpgjaaGreatDoor
