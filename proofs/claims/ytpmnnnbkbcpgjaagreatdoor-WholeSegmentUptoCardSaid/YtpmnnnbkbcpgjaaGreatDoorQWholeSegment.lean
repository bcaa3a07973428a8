import Derived.Test.YtpmnnnbkbcpgjaaGreatDoorQTopWant
import Derived.Test.YtpmnnnbkbcpgjaaGreatDoorQTopTwin
import Derived.Test.YtpmnnnbkbcpgjaaGreatDoorQSegNames
import Derived.Deep.CutRange
/- The walk of notarytop.WholeSegment. -/
namespace Go.Proofs.YtpmnnnbkbcpgjaaGreatDoor
open Go.RowKit
open FrameMath (laid)
attribute [local go_sem ↓] Go.wp_at_zero Go.wp_at_succ

theorem topwidth8 (x k : Nat) (hk : k = 1 + x % 32) (hx : x ≤ 255) (w : World) : Calls Tryz.prog 37 #[.int .u8 x] w fun e w' => e = .returned (.int .i64 k) ∧ w = w' := by
  subst hk
  exact topwidth_calls x x rfl hx w
theorem toptwinR (A : Option Addr) (p : List UInt8) (n cap : Nat) (w : World) (hp : RB w A cap p) (hn : n = p.length) (hl : p.length ≤ 140737488355328) :
    Calls Tryz.prog 39 #[.slice A n cap] w fun e w' => ∃ A' c', e = .returned (.slice A' n c') ∧ NewB w w' (.slice A' n c') p := by
  subst hn; exact toptwin_calls A p cap w hp hl
/-- a round's end: what was gathered, one batch more -/
theorem ws_round {wh wr w3 w5 w6 w7 w8 : World} {f ix m mn j W0 c3 c6 c7 c8 c9 c10 c11 : Nat} {A3 A6 A7 A8 A9 A10 A11 : Option Addr} {PJ PN : List UInt8} {ls : List (List En)} {bs' : List BvV} {ds : List EnX} {C1 C2 C3 : Array Value} {T1 T2 T3 : TypeId}
    (h : WS wh wr PJ (.slice A8 m c8) (.slice A10 j c10) (.slice A11 (j + 1) c11) (j + 1) (endsL f ls (j + 1)) bs') (hb3 : Below wr.heap.size wr w3) (hE3 : Ents w3 A3 ds) (hu3 : ∀ k, uses ⟨ix, A3, c3, ds⟩ k → k < W0 ∨ wr.heap.size < k) (hW : W0 ≤ wh.heap.size)
    (hb5 : Below (w3.alloc (.cells C1 T1)).heap.size (w3.alloc (.cells C1 T1)) w5)
    (ho6 : OB w6 wh.heap.size 5 (.slice A6 mn c6) PN) (hg6 : w5.grownBy w6 (Value.slice A8 m c8).ownBlock) (hr6 : (Value.slice A6 mn c6).ownBlock = (Value.slice A8 m c8).ownBlock ∨ (Value.slice A6 mn c6).ownBlock = some w5.heap.size)
    (ho7 : w7.ownsRow wh.heap.size 3 1 (.slice A7 (j + 1 + 1) c7) (j + 1 + 1) (endsL f ls (j + 1) ++ [.int .i64 mn])) (hg7 : (w6.alloc (.cells C2 T2)).grownBy w7 (Value.slice A11 (j + 1) c11).ownBlock) (hr7 : (Value.slice A7 (j + 1 + 1) c7).ownBlock = (Value.slice A11 (j + 1) c11).ownBlock ∨ (Value.slice A7 (j + 1 + 1) c7).ownBlock = some (w6.alloc (.cells C2 T2)).heap.size)
    (hmn : endN f ls (j + 1) = mn) (hbl : bs'.length = j) (ho8 : w8.ownsRow wh.heap.size 35 2 (.slice A9 (j + 1) c9) (j + 1) (bs'.flatMap vcells ++ vcells ⟨ix, A3, c3, ds⟩)) (hg8 : (w7.alloc (.cells C3 T3)).grownBy w8 (Value.slice A10 j c10).ownBlock) (hr8 : (Value.slice A9 (j + 1) c9).ownBlock = (Value.slice A10 j c10).ownBlock ∨ (Value.slice A9 (j + 1) c9).ownBlock = some (w7.alloc (.cells C3 T3)).heap.size) :
    WS wh w8 PN (.slice A6 mn c6) (.slice A9 (j + 1) c9) (.slice A7 (j + 1 + 1) c7) (j + 1 + 1) (endsL f ls (j + 1 + 1)) (bs' ++ [⟨ix, A3, c3, ds⟩]) := by
  subst hmn
  have n3 := Bl.alloc w3 (.cells C1 T1)
  have h5 := ((h.new hb3).new n3).new hb5
  have h6 := h5.app_p ho6 hg6 hr6
  have h6' := h6.new (Bl.alloc w6 (.cells C2 T2))
  have h7 := h6'.app_ends ho7 hg7 hr7
  have h7' := h7.new (Bl.alloc w7 (.cells C3 T3))
  rw [← endsL_succ] at h7'
  have z3 := hb3.size
  have z5 : w3.heap.size + 1 ≤ w5.heap.size := by have := hb5.size; rwa [asz] at this
  have z6 := hg6.size
  have z7 : w6.heap.size + 1 ≤ w7.heap.size := by have := hg7.size; rwa [asz] at this
  have hlt : ∀ k, uses ⟨ix, A3, c3, ds⟩ k → k < w3.heap.size := fun k hk => uses_lt (b := ⟨ix, A3, c3, ds⟩) hE3 k hk
  have hne : ∀ v : Value, (∀ k, v.ownBlock = some k → wh.heap.size ≤ k ∧ k < wr.heap.size) → ∀ k, uses ⟨ix, A3, c3, ds⟩ k → v.ownBlock ≠ some k := fun v hv k hk e => by
    have := hv k e
    rcases hu3 k hk with h1 | h1 <;> omega
  have hp := hne _ (fun k hk => h.p.at_base k hk)
  have ha := hne _ (fun k hk => h.all.lt k hk)
  have he := hne _ (fun k hk => h.ends.lt k hk)
  have hE7 : Ents (w7.alloc (.cells C3 T3)) A3 ds := by
    have e5 := (hE3.new n3).new hb5
    have e6 : Ents w6 A3 ds := Ents.keepU (b := ⟨ix, A3, c3, ds⟩) e5 fun k hk => hg6.block k (by have := hlt k hk; omega) (fun e => hp k hk e.symm)
    have e7 : Ents w7 A3 ds := Ents.keepU (b := ⟨ix, A3, c3, ds⟩) (e6.new (Bl.alloc w6 (.cells C2 T2))) fun k hk => hg7.block k (by rw [asz]; have := hlt k hk; omega) (fun e => he k hk e.symm)
    exact e7.new (Bl.alloc w7 (.cells C3 T3))
  refine WS.app_all ⟨ix, A3, c3, ds⟩ h7' hE7 (fun k hk => ⟨step_ne (w := w5) (hp k hk) (by have := hlt k hk; omega) hr6, ha k hk, step_ne (w := w6.alloc (.cells C2 T2)) (he k hk) (by rw [asz]; have := hlt k hk; omega) hr7⟩) (by rw [hbl]; exact ho8) hg8 hr8
theorem ws_cells (w : World) (ix : Nat) (A3 : Option Addr) (c3 : Nat) (ds : List EnX) (m1 : Nat) (hm : m1 = ds.length) : ∀ j u, (vcells ⟨ix, A3, c3, ds⟩)[j]? = some u → (w.alloc (.cells #[.int .u64 ix, .slice A3 m1 c3] 35)).cell? ((⟨w.heap.size, 0, none⟩ : Addr).add j) = some u := fun j u hu => by
  subst hm
  match j, hu with
  | 0, hu => obtain rfl := Option.some.inj hu; exact (pair_at w w.heap.size rfl _ _ _).1
  | 1, hu => obtain rfl := Option.some.inj hu; exact (pair_at w w.heap.size rfl _ _ _).2
  | j + 2, hu => simp [vcells] at hu
theorem ws_one (b : BvV) : ∀ u ∈ vcells b, u.oneCell' = true := fun u hu => by
  simp [vcells] at hu
  rcases hu with rfl | rfl <;> rfl
theorem ws_all {wh wr wr' : World} {P : List UInt8} {vp va ve : Value} {n j : Nat} {es : List Value} {bs : List BvV} (h : WS wh wr P vp va ve n es bs) (hb : bs.length = j) (n1 : Below wr.heap.size wr wr') : wr'.ownsRow wh.heap.size 35 2 va j (bs.flatMap vcells) := by
  subst hb
  exact (h.new n1).all
theorem cut_atW (f : Nat → Nat) (left : Nat) (h0 : f 0 ≤ left) : ∀ n, ∃ k, k ≤ n ∧ f k ≤ left ∧ (∀ i, i < k → f (i + 1) ≤ left) ∧ (k < n → left < f (k + 1)) := by
  intro n
  induction n with
  | zero => exact ⟨0, Nat.le_refl _, h0, fun i hi => by omega, fun h => by omega⟩
  | succ n ih =>
    obtain ⟨k, h1, h2, h3, h4⟩ := ih
    by_cases hk : k < n
    · exact ⟨k, by omega, h2, h3, fun _ => h4 hk⟩
    · obtain rfl : k = n := by omega
      by_cases hf : f (k + 1) ≤ left
      · refine ⟨k + 1, Nat.le_refl _, hf, fun i hi => ?_, fun h => by omega⟩
        by_cases hik : i = k
        · rw [hik]; exact hf
        · exact h3 i (by omega)
      · exact ⟨k, by omega, h2, h3, fun _ => by omega⟩
theorem bytesLess_asymm : ∀ l m : List UInt8, Op.bytesLess l m = true → Op.bytesLess m l = false
  | [], [], h => by simp [Op.bytesLess] at h
  | [], _ :: _, _ => by simp [Op.bytesLess]
  | _ :: _, [], h => by simp [Op.bytesLess] at h
  | a :: x, b :: y, h => by
    simp only [Op.bytesLess, Bool.or_eq_true, decide_eq_true_eq, Bool.and_eq_true, beq_iff_eq] at h
    simp only [Op.bytesLess, Bool.or_eq_false_iff, decide_eq_false_iff_not, Bool.and_eq_false_iff, beq_eq_false_iff_ne]
    rcases h with h | ⟨rfl, h⟩
    · refine ⟨fun h2 => ?_, .inl (fun e => ?_)⟩
      · rw [UInt8.lt_iff_toNat_lt] at h h2; omega
      · subst e; rw [UInt8.lt_iff_toNat_lt] at h; omega
    · exact ⟨fun h2 => by rw [UInt8.lt_iff_toNat_lt] at h2; omega, .inr (bytesLess_asymm x y h)⟩
set_option maxHeartbeats 2000000 in
set_option maxRecDepth 100000 in
theorem wholeSegment_calls (N E x : Nat) (hN : N ≤ 18446744073709551615) (hE : E ≤ 18446744073709551615) (hx : x ≤ 255) (A : Option Addr) (ps : List PtV) (n c : Nat) (at_ z : Nat) (hat : at_ ≤ 4294967295) (hz : z ≤ 255) (w : World) (hL : Laid8 w) (hP : Prts w A ps) (hn : n = ps.length) (hn6 : n ≤ 1048576) :
    Calls Tryz.prog 11 #[.int .u64 N, .int .u64 E, .int .u8 x, .slice A n c, .int .u32 at_, .int .u8 z] w fun r w' => r = .returned (.bool true) ∧ Below w.heap.size w w' := by
  obtain ⟨f, hf⟩ : ∃ f, f = N % 1000 := ⟨_, rfl⟩
  have hfN : (N : Int) % 1000 = (f : Int) := by omega
  have hf9 : f ≤ 999 := by omega
  obtain ⟨wd, hwd⟩ : ∃ k, k = 1 + x % 32 := ⟨_, rfl⟩
  have hw1 : 1 ≤ wd := by omega
  have hw2 : wd ≤ 32 := by omega
  obtain ⟨ls, hls⟩ : ∃ l, l = lsP f ps := ⟨_, rfl⟩
  have hE0 : encH N E f wd = (headL (⟨N, E, f, wd⟩ : HdV), 0) := by
    unfold encH
    rw [if_pos ⟨by omega, by omega⟩]
    congr 2
  have HOKH : Hid (HdOk (⟨N, E, f, wd⟩ : HdV)) := Lib.hid ⟨hN, hE, by show f ≤ 18446744073709551615; omega, hw1, hw2⟩
  have HOK : Hid (okBs f ls) := Lib.hid (by rw [hls]; exact lsP_ok ps f (by omega))
  have HLL : Hid (n = ls.length) := Lib.hid (by rw [hls, lsP_length]; exact hn)
  have HGET : Hid (∀ j p, ps[j]? = some p → ls[j]? = some (partN (endIx f (ls.take j)) p.e (p.c % 64))) := Lib.hid fun j p h => by rw [hls]; exact lsP_get ps f j p h
  have HIXL : Hid (∀ j, endIx f (ls.take j) ≤ f + 64 * j) := Lib.hid fun j => by
    have h1 := endIx_le (ls.take j) f fun l hl => lsP_small ps f l (by rw [← hls]; exact List.mem_of_mem_take hl)
    have h2 : (ls.take j).length ≤ j := List.length_take_le _ _
    omega
  have HWD := Lib.hid hwd
  have HEH := Lib.hid hE0
  have HPP := Lib.hid hP
  have HN := Lib.hid hn
  have HB0 := Lib.hid (below_alloc1 (Below.refl w.heap.size w) (Nat.le_refl _) (.cells #[.int .u64 N, .int .u64 E, .int .u64 f, .int .i64 wd] 32))
  have R0 := Row.fresh w w.heap.size rfl 32 [.int .u64 N, .int .u64 E, .int .u64 f, .int .i64 wd] #[.int .u64 N, .int .u64 E, .int .u64 f, .int .i64 wd] rfl
  have HL := Lib.hid hL
  have x0 := R0.c 0 _ rfl
  have x1 := R0.c 1 _ rfl
  have x2 := R0.c 2 _ rfl
  have x3 := R0.c 3 _ rfl
  have HR := Lib.hid R0
  clear hf hwd hls hE0 hP hn hL R0
  go_enter Tryz.func11, Tryz.ntmps11
  go_wp2_with (first
    | (go_at_call 37; go_loud (with_reducible refine (topwidth8 x wd HWD.out hx _).mono ?_); rintro e0 w0 ⟨rfl, rfl⟩)
    | (go_at_call 17; go_loud (with_reducible refine (encHeadN N E f wd HOKH.out.n HOKH.out.ep HOKH.out.f (headL (⟨N, E, f, wd⟩ : HdV)) 0 HEH.out 48 (headL_length _).symm _).mono ?_); rintro r1 w1 ⟨A1, c1, rfl, hn1⟩; have B1 := Lib.hid hn1.below; have P1 := Lib.hid hn1.own; have R1 := (HR.out.new hn1.below).new (Bl.alloc w1 (.cells #[.int .i64 48] 3)); have y2 := R1.c 2 _ rfl; clear x0 x1 x2 x3 R1 hn1))
  have L1 : Hid (WS (w.alloc (.cells #[.int .u64 N, .int .u64 E, .int .u64 f, .int .i64 wd] 32)) (w1.alloc (.cells #[.int .i64 48] 3)) (headL (⟨N, E, f, wd⟩ : HdV)) (.slice A1 48 c1) (.slice none 0 0) (.slice (some ⟨w1.heap.size, 0, none⟩) 1 1) 1 [.int .i64 48] []) := by
    have hb := B1.out
    have ho := P1.out
    have hz : ∀ v : Value, apartV v (.slice none 0 0) := fun v => (show apartV (.slice none 0 0) v from .inl rfl).symm
    exact Lib.hid ⟨ho.alloc _, World.ownsRow_lit (base := ((w.alloc (.cells #[.int .u64 N, .int .u64 E, .int .u64 f, .int .i64 wd] 32))).heap.size) (e := 3) (size := 1) w1 #[.int .i64 48] 1 hb.size (by decide) rfl, World.ownsRow_nil _ _ _ 2, fun b hb => absurd hb (by simp), fun b hb => absurd hb (by simp), (apart_fresh8 (u := .slice (some ⟨w1.heap.size, 0, none⟩) 1 1) (w := w1) (fun k hk => Nat.le_of_eq (Option.some.inj (show some w1.heap.size = some k from hk))) (fun k hk => (ho.at_base k hk).2)).symm, hz _, hz _, belowA hb _⟩
  clear B1 P1 y2
  go_loopw [14, 17, 18, 19, 20, 21, 22, 23] (fun vp va ve nx iv _ _ _ wr => ∃ (j m ix : Nat) (A8 A10 A11 : Option Addr) (c8 c10 c11 : Nat) (bs' : List BvV), j ≤ n ∧ iv = .int .i64 j ∧ vp = .slice A8 m c8 ∧ va = .slice A10 j c10 ∧ ve = .slice A11 (j + 1) c11 ∧ nx = .int .u64 ix ∧ Hid (ix = endIx f (ls.take j)) ∧ Hid (m = endN f ls j) ∧ Hid (WS (w.alloc (.cells #[.int .u64 N, .int .u64 E, .int .u64 f, .int .i64 wd] 32)) wr (headL (⟨N, E, f, wd⟩ : HdV) ++ frB f (ls.take j)) (.slice A8 m c8) (.slice A10 j c10) (.slice A11 (j + 1) c11) (j + 1) (endsL f ls (j + 1)) bs') ∧ Hid (bs'.map BvV.fst = ixB f (ls.take j))) (fun _ _ _ _ iv _ _ _ _ => n - (intOf iv).toNat)
  case atStart => exact ⟨0, 48, f, A1, none, _, c1, 0, _, [], Nat.zero_le _, rfl, rfl, rfl, rfl, rfl, Lib.hid rfl, Lib.hid rfl, Lib.hid (by simpa [frB, endsL, endN] using L1.out), Lib.hid rfl⟩
  case round =>
    obtain ⟨j, m, ix, A8, A10, A11, c8, c10, c11, bs', hj, rfl, rfl, rfl, rfl, rfl, HIX, HM, HWS, HFS⟩ := hrel
    by_cases hlt : j < n
    · have hbw := below_then HB0.out HWS.out.below
      obtain ⟨a, p, rfl, hp, hpm, k0, k1, k2, k3⟩ := (HPP.out.new hbw).at_ j (by rw [← HN.out]; exact hlt)
      obtain ⟨hok, hc255⟩ := HPP.out.ok p hpm
      have hlj := HGET.out j p hp
      have hixl := HIXL.out j
      rw [← HIX.out] at hlj hixl
      obtain ⟨C, e, ea⟩ := p
      simp only at k0 k1 k2 k3 hok hc255 hlj
      obtain ⟨nK, hnK⟩ : ∃ k, k = e.K.length := ⟨_, rfl⟩
      obtain ⟨nV, hnV⟩ : ∃ k, k = e.V.length := ⟨_, rfl⟩
      obtain ⟨mc, hmc⟩ : ∃ k, k = C % 64 := ⟨_, rfl⟩
      obtain ⟨m1, hm1⟩ : ∃ k, k = mc + 1 := ⟨_, rfl⟩
      rw [← hnK] at k2
      rw [← hnV] at k3
      rw [← hmc] at hlj
      have hm64 : m1 ≤ 64 := by omega
      have hix64 : ix ≤ 18446744073709551615 := by omega
      have hce := okBs_at f ls j _ hlj HOK.out
      rw [← HIX.out] at hce
      obtain ⟨q, hq⟩ : ∃ q, segB ix (partN ix e mc) = (q, 0) := ⟨_, by unfold segB; rw [hce]; rfl⟩
      obtain ⟨mq, hmq⟩ : ∃ k, k = q.length := ⟨_, rfl⟩
      obtain ⟨hqe, _⟩ := segB_ok hq
      have hqs := (encBF_small _ _ _ hce).2
      have hmq2 : mq ≤ 21862 := by rw [hmq, hqe, FrameMath.laid_length]; omega
      obtain ⟨PN, hPN⟩ : ∃ PN, PN = headL (⟨N, E, f, wd⟩ : HdV) ++ frB f (ls.take (j + 1)) := ⟨_, rfl⟩
      have hPJ : (headL (⟨N, E, f, wd⟩ : HdV) ++ frB f (ls.take j)) ++ q = PN := by
        rw [hPN, frB_succ f ls j _ hlj, ← HIX.out, ← hqe, ← List.append_assoc]
      obtain ⟨PJ, hPJd⟩ : ∃ PJ, PJ = headL (⟨N, E, f, wd⟩ : HdV) ++ frB f (ls.take j) := ⟨_, rfl⟩
      have hPJl : PJ.length = m := by rw [HM.out, hPJd, List.length_append, headL_length]; rfl
      rw [← hPJd] at hPJ
      have hmm : m ≤ 22923968560 := by
        have h1 := frB_small (ls.take j) f (okBs_take _ _ _ HOK.out)
        have h2 : (ls.take j).length ≤ j := List.length_take_le _ _
        have h3 : m = 48 + (frB f (ls.take j)).length := HM.out
        have : 21862 * (ls.take j).length ≤ 21862 * 1048576 := Nat.mul_le_mul_left _ (by omega)
        omega
      have hend : endN f ls (j + 1) = PN.length := by rw [hPN, List.length_append, headL_length]; rfl
      have hbl : bs'.length = j := by
        have h1 := congrArg List.length HFS.out
        rw [List.length_map, ixB_length, List.length_take, ← HLL.out] at h1
        omega
      have hws : WS (w.alloc (.cells #[.int .u64 N, .int .u64 E, .int .u64 f, .int .i64 wd] 32)) wr PJ (.slice A8 m c8) (.slice A10 j c10) (.slice A11 (j + 1) c11) (j + 1) (endsL f ls (j + 1)) bs' := by rw [hPJd]; exact HWS.out
      have hu64 : IntKind.u64.wrap (m1 : Int) = (m1 : Int) := by rw [IntKind.wrap_u64]; omega
      have hadd : IntKind.u64.wrap ((ix : Int) + (m1 : Int)) = ((ix + m1 : Nat) : Int) := by rw [IntKind.wrap_u64]; omega
      have HW := Lib.hid hws
      have HW0 : Hid (w.heap.size ≤ ((w.alloc (.cells #[.int .u64 N, .int .u64 E, .int .u64 f, .int .i64 wd] 32))).heap.size) := Lib.hid (by rw [asz]; exact Nat.le_succ _)
      have HBW := Lib.hid hbw
      have HEO := Lib.hid hok
      have HNK := Lib.hid hnK
      have HNV := Lib.hid hnV
      have HMC := Lib.hid hmc
      have HM1 := Lib.hid hm1
      have HQ := Lib.hid hq
      have HMQ := Lib.hid hmq
      have HPJ := Lib.hid hPJ
      have HPJL := Lib.hid hPJl
      have HPN := Lib.hid hPN
      have HEND := Lib.hid hend
      have HBL := Lib.hid hbl
      have HLJ := Lib.hid hlj
      have HPL : Hid (PJ.length + q.length ≤ 140737488355328) := Lib.hid (by omega)
      clear hp hpm hok hlj hnK hnV hmc hm1 hce hq hmq hqe hqs hmq2 hPN hPJ hPJd hPJl hend hbl hws hbw hixl
      go_wp2_with (first
        | (go_at_call 38; go_loud (with_reducible refine (topbatch_calls w.heap.size ix hix64 C hc255 e ea nK nV HNK.out HNV.out _ (HEO.out.new HBW.out) (fun ad h1 h2 => HEO.out.K.old.out ad h1 h2) (fun ad h1 h2 => HEO.out.V.old.out ad h1 h2) mc HMC.out m1 HM1.out).mono ?_); rintro r3 w3 ⟨A3, c3, ds, rfl, hE3, hl3, hd3, hu3, hb3⟩; have n3 := Bl.alloc w3 (.cells #[.int .u64 ix, .slice A3 m1 c3] 35); have L3 := Lib.hid ((HW.out.new hb3).new n3); have D3 := Duo.fresh w3 w3.heap.size rfl (.int .u64 ix) (.slice A3 m1 c3) 35; have y0 := D3.c0; have y1 := D3.c1; have D3 := Lib.hid D3; have E3 := Lib.hid (hE3.new n3); have HE3 := Lib.hid hE3; have HL3 := Lib.hid hl3; have HD3 := Lib.hid hd3; have HU3b : Hid (∀ k, uses ⟨ix, A3, c3, ds⟩ k → k < w.heap.size ∨ wr.heap.size < k) := Lib.hid (fun k hk => (hu3 k hk).imp id (fun h9 => Nat.lt_of_succ_lt h9)); have HB3 := Lib.hid hb3; clear n3 hE3 hl3 hd3 hu3 hb3)
        | (go_at_call 20; go_loud (with_reducible refine (segBatch_calls ix _ rfl hix64 A3 m1 c3 ds _ E3.out HL3.out (by omega) q 0 (by rw [HD3.out]; exact HQ.out) mq HMQ.out).mono ?_); rintro r5 w5 ⟨A5, c5, rfl, hn5⟩; have L5 := Lib.hid (L3.out.new hn5.below); have D5 := Lib.hid (D3.out.new hn5.below); have Q5 := Lib.hid hn5.own.rb; have HB5 := Lib.hid hn5.below; clear y0 y1 hn5)
        | (refine wp_op_is (.call { callee := .builtin .append, args := #[.tmp 76, .tmp 77], argTypes := #[36, 36] }) rfl ?_; refine wp_appendB_at bt rfl (.tmp 76) (.tmp 77) rfl ((w.alloc (.cells #[.int .u64 N, .int .u64 E, .int .u64 f, .int .i64 wd] 32))).heap.size (.slice A8 m c8) PJ rfl L5.out.p A5 q mq c5 rfl HMQ.out Q5.out HPL.out L5.out.below.size PN HPJ.out fun A6 c6 w6 ho6 hg6 hr6 => ?_; have L6 := Lib.hid (L5.out.app_p ho6 hg6 hr6); have D6 := Lib.hid (D5.out.grownV hg6 (fun k hk => by have := (HW.out.p.at_base k hk).2; have := HB3.out.size; omega)); have HO6 := Lib.hid ho6; have HG6 := Lib.hid hg6; have HR6 := Lib.hid hr6; clear ho6 hg6 hr6)
        | (refine wp_op_is (.call { callee := .builtin .append, args := #[.tmp 79, .tmp 82], argTypes := #[61, 61] }) rfl ?_; refine wp_appendG itL rfl (.tmp 79) (.tmp 82) rfl ((w.alloc (.cells #[.int .u64 N, .int .u64 E, .int .u64 f, .int .i64 wd] 32))).heap.size (.slice A11 (j + 1) c11) (j + 1) (endsL f ls (j + 1)) rfl (L6.out.new (Bl.alloc w6 (.cells #[.int .i64 PN.length] 3))).ends ⟨w6.heap.size, 0, Option.none⟩ 1 1 [.int .i64 PN.length] rfl rfl (fun i u hu => cell_one_new w6 _ _ i u hu) (fun u hu => by obtain rfl := List.mem_singleton.1 hu; rfl) (by omega) (by decide) (Nat.le_trans L6.out.below.size (by rw [asz]; exact Nat.le_succ _)) fun A7 c7 w7 ho7 hg7 hr7 => ?_; have L7 := Lib.hid ((L6.out.new (Bl.alloc w6 (.cells #[.int .i64 PN.length] 3))).app_ends ho7 hg7 hr7); have D7 := (D6.out.new (Bl.alloc w6 (.cells #[.int .i64 PN.length] 3))).grownV hg7 (fun k hk => by have := (HW.out.ends.lt k hk).2; have := HB3.out.size; omega); have y0 := D7.c0; have y1 := D7.c1; have HD7 := Lib.hid D7; have HO7 := Lib.hid ho7; have HG7 := Lib.hid hg7; have HR7 := Lib.hid hr7; clear ho7 hg7 hr7 D7)
        | (refine wp_op_is (.call { callee := .builtin .append, args := #[.tmp 84, .tmp 86], argTypes := #[49, 49] }) rfl ?_; (go_loud (refine wp_appendG btL rfl (.tmp 84) (.tmp 86) rfl ((w.alloc (.cells #[.int .u64 N, .int .u64 E, .int .u64 f, .int .i64 wd] 32))).heap.size (.slice A10 j c10) j (bs'.flatMap vcells) rfl (ws_all L7.out HBL.out (Bl.alloc w7 (.cells #[.int .u64 ix, .slice A3 m1 c3] 35))) ⟨w7.heap.size, 0, Option.none⟩ 1 1 (vcells ⟨ix, A3, c3, ds⟩) rfl rfl (ws_cells w7 ix A3 c3 ds m1 HL3.out) (ws_one ⟨ix, A3, c3, ds⟩) (by omega) (by decide) (Nat.le_trans L7.out.below.size (by rw [asz]; exact Nat.le_succ _)) fun A9 c9 w8 ho8 hg8 hr8 => ?_); go_loud (have L8 := Lib.hid (ws_round HW.out HB3.out HE3.out HU3b.out HW0.out HB5.out HO6.out HG6.out HR6.out HO7.out HG7.out HR7.out HEND.out HBL.out ho8 hg8 hr8)); go_loud (have D8 := (HD7.out.new (Bl.alloc w7 (.cells #[.int .u64 ix, .slice A3 m1 c3] 35))).grownV hg8 (fun k hk => by have := (HW.out.all.lt k hk).2; have := HB3.out.size; omega)); have y0 := D8.c0; have y1 := D8.c1; clear ho8 hg8 hr8 D8)))
      go_roundw
      case rel =>
        refine ⟨j + 1, PN.length, ix + m1, A6, A9, A7, c6, c9, c7, bs' ++ [⟨ix, A3, c3, ds⟩], by omega, by go_num, rfl, rfl, rfl, rfl, Lib.hid ?_, Lib.hid HEND.out.symm, Lib.hid ?_, Lib.hid ?_⟩
        · rw [endIx_succ f ls j _ HLJ.out, ← HIX.out, partN_length, HM1.out]
        · rw [← HPN.out]; exact L8.out
        · rw [ixB_succ f ls j _ HLJ.out, ← HIX.out, List.map_append, HFS.out, ← HD3.out]; rfl
      case measure => simp [intOf]; omega
    · obtain rfl : j = n := by omega
      obtain ⟨wo, hwo⟩ : ∃ x, x = wr := ⟨_, rfl⟩
      subst hwo
      have htk : ls.take j = ls := List.take_of_length_le (Nat.le_of_eq HLL.out.symm)
      have hws := HWS.out
      have hfs := HFS.out
      rw [htk] at hws hfs
      obtain ⟨P, hP⟩ : ∃ P, P = headL (⟨N, E, f, wd⟩ : HdV) ++ frB f ls := ⟨_, rfl⟩
      rw [← hP] at hws
      have hPl : P.length = m := by rw [HM.out, hP, List.length_append, headL_length]; unfold endN; rw [htk]
      have hmm : m ≤ 22923968560 := by
        have h1 := frB_small ls f HOK.out
        have h3 : P.length = 48 + (frB f ls).length := by rw [hP, List.length_append, headL_length]
        rw [← HLL.out] at h1
        have : 21862 * j ≤ 21862 * 1048576 := Nat.mul_le_mul_left _ (by omega)
        omega
      have hbl : j = bs'.length := by
        have h1 := congrArg List.length hfs
        rw [List.length_map, ixB_length, ← HLL.out] at h1
        exact h1.symm
      obtain ⟨l1, hl1⟩ : ∃ k, k = at_ % (m + 1) := ⟨_, rfl⟩
      have hl1m : l1 ≤ m := by have := Nat.mod_lt at_ (show m + 1 > 0 by omega); omega
      have hM4 : (at_ : Int) % ((m : Int) + 1) = (l1 : Int) := by rw [hl1]; simp
      have hcb : m ≤ c8 := by have := hws.p.rb.len; omega
      obtain ⟨bq, hbq⟩ : ∃ b : Bool, ((at_ : Int) % 4 == 0) = b := ⟨_, rfl⟩
      have HW := Lib.hid hws
      have HFX := Lib.hid hfs
      have HPD := Lib.hid hP
      have HPLn := Lib.hid hPl
      have HBLn := Lib.hid hbl
      clear htk hws hfs hP hPl hbl hl1 hlt L1
      go_upto_if 102 with fail
      go_cut [24] from 103 (fun s24 wx => ∃ left : Nat, left ≤ m ∧ s24 = .int .i64 left ∧ wx = wo)
      case first =>
        clear hbq
        cases bq
        · go_wp2
          go_meet
          exact ⟨l1, hl1m, by rw [hM4], rfl⟩
        · go_wp2
          go_meet
          exact ⟨m, Nat.le_refl _, rfl, rfl⟩
      case rest =>
        obtain ⟨left, hleft, rfl, rfl⟩ := hcut
        obtain ⟨wv, hwv⟩ : ∃ x, x = wc := ⟨_, rfl⟩
        subst hwv
        have hcutH := fun w' : World => run_cut_h w' A8 m c8 left left rfl (by omega)
        have HTL : Hid (left = (P.take left).length) := Lib.hid (by rw [List.length_take, HPLn.out]; omega)
        have HTB : Hid ((P.take left).length ≤ 140737488355328) := Lib.hid (by rw [List.length_take, HPLn.out]; omega)
        clear hM4 hbq hl1m
        go_wp2_with (go_at_call 39; go_loud (with_reducible refine (toptwinR A8 (P.take left) left c8 _ (HW.out.p.rb.take left) HTL.out HTB.out).mono ?_); rintro e8 w8 ⟨A25, c25, rfl, hn8⟩)
        have HN8 := Lib.hid hn8
        clear hn8
        go_loopw [25, 26] (fun v i wr => ∃ (k q9 : Nat) (A9 : Option Addr) (c9 : Nat), k ≤ z ∧ i = .int .i64 k ∧ v = .slice A9 q9 c9 ∧ Hid (q9 = left + k) ∧ Hid (OB wr wv.heap.size 5 (.slice A9 q9 c9) (P.take left ++ List.replicate k 0)) ∧ Hid (Below wv.heap.size wv wr)) (fun _ i _ => z - (RowKit.intOf i).toNat)
        case atStart => exact ⟨0, left, A25, c25, Nat.zero_le _, rfl, rfl, Lib.hid rfl, Lib.hid (by rw [List.replicate_zero, List.append_nil]; exact HN8.out.own), Lib.hid HN8.out.below⟩
        case round =>
          obtain ⟨k, q9, A9, c9, hk, rfl, rfl, HQ9, HO, HB9⟩ := hrel
          by_cases hlt : k < z
          · obtain ⟨X0, hX0⟩ : ∃ X, X = P.take left ++ List.replicate k (0 : UInt8) := ⟨_, rfl⟩
            obtain ⟨X1, hX1⟩ : ∃ X, X = P.take left ++ List.replicate (k + 1) (0 : UInt8) := ⟨_, rfl⟩
            have ho : OB wr wv.heap.size 5 (.slice A9 q9 c9) X0 := by rw [hX0]; exact HO.out
            have hX01 : X0 ++ [0] = X1 := by rw [hX0, hX1, List.append_assoc, ← List.replicate_succ']
            have hX0l : X0.length = q9 := by rw [hX0, List.length_append, ← HTL.out, List.length_replicate, HQ9.out]
            have hX1l : X1.length = left + (k + 1) := by rw [hX1, List.length_append, ← HTL.out, List.length_replicate]
            have hbd : X0.length + ([0] : List UInt8).length ≤ 140737488355328 := by rw [hX0l, HQ9.out]; show left + k + 1 ≤ _; omega
            have HOX := Lib.hid (ho.alloc (.cells #[.int .u8 0] 5))
            have HBT := Lib.hid ho
            have HX01 := Lib.hid hX01
            have HX1 := Lib.hid hX1
            have HX1L := Lib.hid hX1l
            have HBD := Lib.hid hbd
            have HR0 := Lib.hid (RB.lit wr 5 (0, 0) #[.int .u8 0] [0] rfl 1 rfl (by decide))
            have HSZ : Hid (wv.heap.size ≤ (wr.alloc (.cells #[.int .u8 0] 5)).heap.size) := Lib.hid (Nat.le_trans HB9.out.size (by rw [asz]; exact Nat.le_succ _))
            clear ho hX01 hX0l hX1l hbd hX0 hX1
            go_wp2_with (refine wp_op_is (.call { callee := .builtin .append, args := #[.tmp 115, .tmp 116], argTypes := #[36, 36] }) rfl ?_; go_loud (refine wp_appendB_at bt rfl (.tmp 115) (.tmp 116) rfl wv.heap.size (.slice A9 q9 c9) X0 rfl HOX.out (some ⟨wr.heap.size, 0, Option.none⟩) [0] 1 1 rfl rfl HR0.out HBD.out HSZ.out X1 HX01.out fun A10 c10 w10 ho10 hg10 hr10 => ?_); have HO10 := Lib.hid ho10; have HG10 := Lib.hid hg10; clear ho10 hg10 hr10)
            go_roundw
            case rel => exact ⟨k + 1, X1.length, A10, c10, by omega, by go_num, rfl, Lib.hid HX1L.out, Lib.hid (by rw [← HX1.out]; exact HO10.out), Lib.hid ((belowA HB9.out _).grown HG10.out (belowA HB9.out (.cells #[.int .u8 0] 5)).size (fun b e => (HBT.out.at_base b e).1))⟩
            case measure => simp [RowKit.intOf]; omega
          · obtain rfl : k = z := by omega
            obtain ⟨wx, hwx⟩ : ∃ x, x = wr := ⟨_, rfl⟩
            subst hwx
            obtain ⟨X, hX⟩ : ∃ X, X = P.take left ++ List.replicate k (0 : UInt8) := ⟨_, rfl⟩
            have ho : OB wx wv.heap.size 5 (.slice A9 q9 c9) X := by rw [hX]; exact HO.out
            have hXl : X.length = q9 := by rw [hX, List.length_append, ← HTL.out, List.length_replicate, HQ9.out]
            have hq9 : q9 ≤ 22923968900 := by rw [HQ9.out]; omega
            obtain ⟨s, hs⟩ : ∃ s, readF X = s := ⟨_, rfl⟩
            have HXD := Lib.hid hX
            have HRX := Lib.hid ho.rb
            have HSX := Lib.hid hs
            have HXL := Lib.hid hXl
            have HBX := Lib.hid (below_then (below_then HB0.out HW.out.below) HB9.out)
            have HB9' := Lib.hid HB9.out
            clear hX ho hXl hs HO HB9 hlt
            by_cases h48 : left < 48
            · obtain ⟨nb, hnb⟩ : ∃ nb, nb = s.bs.length := ⟨_, rfl⟩
              have e0 : s.e = 3 := by rw [← HSX.out, HXD.out, HPD.out, readF_torn0 (⟨N, E, f, wd⟩ : HdV) _ left k h48]; rfl
              have HD : Hid (∀ (A : Option Addr) (c : Nat) (w : World), RB w A c X → Calls Tryz.prog 24 #[.slice A q9 c] w fun r w' => ∃ A' c' es, r = .returned (.tuple #[.agg #[.int .u64 s.h.n, .int .u64 s.h.ep, .int .u64 s.h.f, .int .i64 s.h.w, .slice A' nb c', .int .i64 s.used], .int .i64 s.e]) ∧ BL w' (w.heap.size + 1) (.slice A' nb c') es ∧ es.map BtV.fst = s.bs ∧ Below w.heap.size w w') := Lib.hid fun A c w hp => by
                have := segReadB8 X s HSX.out (by rw [HXL.out]; omega) nb hnb A c w hp
                rw [HXL.out] at this
                exact this.mono fun r w' ⟨A', c', es, h1, h2, h3, _, h4⟩ => ⟨A', c', es, h1, h2, h3, h4⟩
              clear hnb
              go_wp2_with (go_at_call 24; go_loud (with_reducible refine (HD.out _ _ _ HRX.out).mono ?_); rintro e11 w11 ⟨A11', c11', es11, rfl, hl11, he11, hb11⟩; have HB11 := Lib.hid (below_then HBX.out hb11); have HA11 := Lib.hid (belowA HB11.out (.cells #[.int .u64 s.h.n, .int .u64 s.h.ep, .int .u64 s.h.f, .int .i64 s.h.w, .slice A11' nb c11', .int .i64 s.used] 51)))
              go_ret
              exact ⟨rfl, HA11.out⟩
            · obtain ⟨K, K1, K2, K3, K4⟩ := cut_atW (fun i => endN f ls i) left (by show 48 ≤ left; omega) j
              have hs1 : readF X = ⟨(⟨N, E, f, wd⟩ : HdV), ixB f (ls.take K), endN f ls K, 0⟩ := by
                rw [HXD.out, HPD.out]
                exact readF_torn (⟨N, E, f, wd⟩ : HdV) HOKH.out ls HOK.out left k K (by rw [← HLL.out]; exact K1) K2 (by
                  by_cases hKj : K = j
                  · left; rw [← HLL.out]; exact hKj
                  · right; exact K4 (by omega))
              have hKb : K = (ixB f (ls.take K)).length := by rw [ixB_length, List.length_take, ← HLL.out]; omega
              obtain ⟨u, hu⟩ : ∃ u, u = endN f ls K := ⟨_, rfl⟩
              rw [← hu] at hs1
              have HD : Hid (∀ (A : Option Addr) (c : Nat) (w : World), RB w A c X → Calls Tryz.prog 24 #[.slice A q9 c] w fun r w' => ∃ A' c' es, r = .returned (.tuple #[.agg #[.int .u64 N, .int .u64 E, .int .u64 f, .int .i64 wd, .slice A' K c', .int .i64 u], .int .i64 (0 : Nat)]) ∧ BL w' (w.heap.size + 1) (.slice A' K c') es ∧ es.map BtV.fst = ixB f (ls.take K) ∧ Below w.heap.size w w') := Lib.hid fun A c w hp => by
                have := segReadB8 X _ hs1 (by rw [HXL.out]; omega) K hKb A c w hp
                rw [HXL.out] at this
                exact this.mono fun r w' ⟨A', c', es, h1, h2, h3, _, h4⟩ => ⟨A', c', es, h1, h2, h3, h4⟩
              have HLE : Hid (∀ es : List BtV, es.map BtV.fst = ixB f (ls.take K) → ∀ b ∈ es.map BtV.view, b.es.length ≤ 9223372036854775807) := Lib.hid fun es he => readF_lens X (es.map BtV.view) (by rw [view_fst, he, hs1])
              have HKB := Lib.hid hKb
              have HU := Lib.hid hu
              have HK3 := Lib.hid K3
              have HK4 := Lib.hid K4
              have h48' : ¬ (left : Int) < 48 := by omega
              clear hs1 hKb hu K2 K3 K4
              go_wp2_with (go_at_call 24; go_loud (with_reducible refine (HD.out _ _ _ HRX.out).mono ?_); rintro e12 w12 ⟨A12, c12, es12, rfl, hl12, he12, hb12⟩; have nn := Bl.alloc w12 (.cells #[.int .u64 N, .int .u64 E, .int .u64 f, .int .i64 wd, .slice A12 K c12, .int .i64 u] 51); have HRS := Lib.hid (Row.fresh w12 w12.heap.size rfl 51 [.int .u64 N, .int .u64 E, .int .u64 f, .int .i64 wd, .slice A12 K c12, .int .i64 u] #[.int .u64 N, .int .u64 E, .int .u64 f, .int .i64 wd, .slice A12 K c12, .int .i64 u] rfl); have HLS := Lib.hid (hl12.new nn); have HE12 := Lib.hid he12; have HB12 := Lib.hid (below_then hb12 nn); have HZ12 : Hid (w.heap.size < w12.heap.size) := Lib.hid (Nat.lt_of_lt_of_le (by have := HW.out.below.size; have := HB9'.out.size; rw [asz] at *; omega) hb12.size); clear nn hl12 he12 hb12)
              generalize w12.alloc (.cells #[.int .u64 N, .int .u64 E, .int .u64 f, .int .i64 wd, .slice A12 K c12, .int .i64 u] 51) = wy at HRS HLS HB12 ⊢
              generalize w12.heap.size = gS at HRS HZ12 ⊢
              have HWY := Lib.hid ((HW.out.new HB9'.out).new HB12.out)
              have HBY := Lib.hid (below_then HBX.out HB12.out)
              obtain ⟨g, c', hv, _, _⟩ := own_at HWY.out.ends 0 _ (endsL_get f ls (j + 1) 0 (by omega))
              injection hv with e1 e2 e3
              subst e1; subst e3
              clear e2
              have HCE : Hid (∀ i, i ≤ j → wy.cell? ⟨g, i, none⟩ = some (.int .i64 (endN f ls i))) := Lib.hid fun i hi => by
                obtain ⟨g', c', hv, _, h0⟩ := own_at HWY.out.ends i _ (endsL_get f ls (j + 1) i (by omega))
                injection hv with e1
                have e1 := Option.some.inj e1
                injection e1 with e1
                rw [e1]; exact h0
              go_loop [29] (fun i => ∃ i0 : Nat, i0 ≤ K ∧ i = .int .i64 i0) (fun i => K - (RowKit.intOf i).toNat)
              case atStart => exact ⟨0, Nat.zero_le _, rfl⟩
              case round =>
                obtain ⟨i, hi, rfl⟩ := hrel
                by_cases hlt : i < K
                · have C1 := HCE.out (i + 1) (by omega)
                  have t2 : endN f ls (i + 1) ≤ left := HK3.out i hlt
                  obtain ⟨u1, hu1⟩ : ∃ u1, u1 = endN f ls (i + 1) := ⟨_, rfl⟩
                  rw [← hu1] at C1 t2
                  have t3 : (u1 : Int) ≤ (left : Int) := by omega
                  have t4 : i + 1 < j + 1 := by omega
                  have t5 : (i : Int) + 1 < (j : Int) + 1 := by omega
                  have t6 : i < j := by omega
                  clear hu1
                  go_wp2
                  go_round
                  case rel => exact ⟨i + 1, by omega, by go_num⟩
                  case measure => simp [RowKit.intOf]; omega
                · obtain rfl : i = K := by omega
                  have C0 := HCE.out i (by omega)
                  rw [← HU.out] at C0
                  have hx : (i < j ∧ ∃ u1 : Nat, wy.cell? ⟨g, i + 1, none⟩ = some (.int .i64 u1) ∧ ¬ u1 ≤ left ∧ ¬ (u1 : Int) ≤ (left : Int)) ∨ ¬ i < j := by
                    by_cases hKj : i < j
                    · have : left < endN f ls (i + 1) := HK4.out hKj
                      exact .inl ⟨hKj, endN f ls (i + 1), HCE.out (i + 1) (by omega), by omega, by omega⟩
                    · exact .inr hKj
                  have R6 := HR.out.new (below_then (below_then HW.out.below HB9'.out) HB12.out)
                  have RS := HRS.out
                  have r0 := RS.c 0 _ rfl
                  have r1 := RS.c 1 _ rfl
                  have r2 := RS.c 2 _ rfl
                  have r3 := RS.c 3 _ rfl
                  have r4 := RS.c 4 _ rfl
                  have r5 := RS.c 5 _ rfl
                  have x0 := R6.c 0 _ rfl
                  have x1 := R6.c 1 _ rfl
                  have x2 := R6.c 2 _ rfl
                  have x3 := R6.c 3 _ rfl
                  have hE := fun w => run_equalHS w N E f wd
                  have huu : ((u : Int) != u) = false := bne_self_eq_false _
                  have hii : ((i : Int) != i) = false := bne_self_eq_false _
                  have h00 : (((0 : Nat) : Int) != 0) = false := rfl
                  clear hlt R6 RS
                  rcases hx with ⟨hKj, u1, C1, hn1, hn2⟩ | hKj
                  all_goals
                    go_wp2
                    refine wp_region_noPanic ?_
                    go_region
                    all_goals refine NoPanic.normal ?_
                    clear hE huu hii h00 x0 x1 x2 x3 r0 r1 r2 r3 r4 r5 C0
                    go_wp2
                    have HVS := Lib.hid (HLS.out.view.new (Bl.drew wy))
                    have HVW := Lib.hid ((HWY.out.bats HBLn.out).new (Bl.drew wy))
                    have HRD := Lib.hid (HRS.out.new (Bl.drew wy))
                    have HBD := Lib.hid (below_then HBY.out (Bl.drew wy))
                    generalize wy.drew = wz at HVS HVW HRD HBD ⊢
                    have HLN : Hid (i = (es12.map BtV.view).length) := Lib.hid (by rw [List.length_map]; have := congrArg List.length HE12.out; rw [List.length_map, ← HKB.out] at this; exact this.symm)
                    go_loopw [30] (fun iv wr => ∃ q : Nat, q ≤ i ∧ iv = .int .i64 q ∧ Below wz.heap.size wz wr) (fun iv _ => i - (RowKit.intOf iv).toNat)
                    case atStart => exact ⟨0, Nat.zero_le _, rfl, Below.refl _ _⟩
                    case round =>
                      obtain ⟨q, hq, rfl, HBB⟩ := hrel
                      have RQ := HRD.out.new HBB
                      have r4 := RQ.c 4 _ rfl
                      by_cases hlt : q < i
                      · obtain ⟨a2, b, rfl, hb, hbm, hbe, k0, k1⟩ := (HVS.out.new HBB).at_ q (by rw [← HLN.out]; exact hlt)
                        obtain ⟨a4, d, rfl, hd, hdm, hde, l0, l1⟩ := (HVW.out.new HBB).at_ q (by rw [← HBLn.out]; omega)
                        have hbd : b.fst = d.fst := by
                          have h1 : ((es12.map BtV.view).map BvV.fst)[q]? = some b.fst := by rw [List.getElem?_map, hb]; rfl
                          have h2 : (bs'.map BvV.fst)[q]? = some d.fst := by rw [List.getElem?_map, hd]; rfl
                          rw [view_fst, HE12.out, ixB_take, List.getElem?_take, if_pos hlt] at h1
                          rw [HFX.out, h1] at h2; exact Option.some.inj h2
                        have hlen : b.es.length ≤ 9223372036854775807 := HLE.out es12 HE12.out b hbm
                        obtain ⟨bf, bA, bc, bes⟩ := b
                        obtain ⟨df, dA, dc, des⟩ := d
                        obtain ⟨e1, e2⟩ := Prod.mk.inj hbd
                        simp only at e1
                        subst e1
                        have e3 : bes.length = des.length := by have := congrArg List.length e2; simpa [ensOf] using this
                        simp only at k0 k1 l0 l1 hbe hde hlen
                        obtain ⟨nb, hnb⟩ : ∃ k, k = bes.length := ⟨_, rfl⟩
                        rw [← hnb, addr_succ] at k1
                        rw [← e3, ← hnb, addr_succ] at l1
                        rw [← hnb] at hlen
                        have hnd : nb = des.length := by rw [hnb]; exact e3
                        have HNB := Lib.hid hnb
                        have HND := Lib.hid hnd
                        have HE2 := Lib.hid e2
                        have HBE := Lib.hid (hbe.new (Bl.drew _))
                        have HDE := Lib.hid (hde.new (Bl.drew _))
                        have RQ := Lib.hid (RQ.new (Bl.drew _))
                        have hqj : q < j := by omega
                        clear hb hd hbm hdm hbd e2 e3 hnb hnd hbe hde
                        go_wp2
                        go_region_held3 (fun w' => w'.cell? ⟨gS, 4, none⟩ = some (.slice (some a2) i c12) ∧ w'.cell? (a2.add (q * 2)) = some (.int .u64 bf) ∧ w'.cell? ⟨(a2.add (q * 2)).block, (a2.add (q * 2)).off + 1, none⟩ = some (.slice bA nb bc) ∧ w'.cell? (a4.add (q * 2)) = some (.int .u64 bf) ∧ w'.cell? ⟨(a4.add (q * 2)).block, (a4.add (q * 2)).off + 1, none⟩ = some (.slice dA nb dc)) (go_keep) (first
                          | (go_at_call 40; go_loud (with_reducible refine (topsameB_calls bf bA dA bes des _ bc dc HNB.out HND.out _ HBE.out HDE.out HE2.out hlen).mono ?_); rintro r5 w5 ⟨rfl, hb5⟩; have R5 := RQ.out.new hb5; have z4 := R5.c 4 _ rfl; have z0 := (hb5.cell (World.block_lt_of_cell? _ _ k0)).trans k0; have z1 := (hb5.cell (World.block_lt_of_cell? _ _ k1)).trans k1; have v0 := (hb5.cell (World.block_lt_of_cell? _ _ l0)).trans l0; have v1 := (hb5.cell (World.block_lt_of_cell? _ _ l1)).trans l1))
                        go_wp2
                        go_roundw
                        case rel => exact ⟨q + 1, by omega, by go_num, below_then HBB.drew hb5⟩
                        case measure => simp [RowKit.intOf]; omega
                      · obtain rfl : q = i := by omega
                        clear hlt r4 RQ
                        obtain ⟨la, hla⟩ : ∃ l, nameL N = l := ⟨_, rfl⟩
                        obtain ⟨lb, hlb⟩ : ∃ l, nameL E = l := ⟨_, rfl⟩
                        have HA := Lib.hid hla
                        have HEb := Lib.hid hlb
                        have HNA := Lib.hid (show numberF la = (N, 0) by rw [← hla]; exact numberF_name N (by omega))
                        have hnn : ((N : Int) == N) = true := beq_self_eq_true _
                        have HBF := Lib.hid (below_then HBD.out HBB)
                        have hN' : N < 18446744073709551616 := by omega
                        have hE' : E < 18446744073709551616 := by omega
                        rcases Nat.lt_trichotomy N E with h9 | h9 | h9
                        · have hls : Op.bytesLess la lb = true := by rw [← hla, ← hlb]; exact nameL_less N E hN' hE' h9
                          have hne : ((N : Int) == E) = false := by rw [beq_eq_false_iff_ne]; omega
                          have h10 : (N : Int) < (E : Int) := by omega
                          clear hla hlb
                          go_wp2_with (first
                            | (go_at_call 13; (with_reducible refine (nameN N hN' _ rfl la HA.out wr (HL.out.below HBF.out)).mono ?_); rintro x41 w41 ⟨rfl, hb41⟩; have B41 := Lib.hid (below_then HBF.out hb41))
                            | (go_at_call 15; (with_reducible refine (numberN _ la rfl N 0 HNA.out _ (HL.out.below B41.out)).mono ?_); rintro x42 w42 ⟨rfl, hb42⟩; have B42 := Lib.hid (below_then B41.out hb42))
                            | (go_at_call 13; (with_reducible refine (nameN N hN' _ rfl la HA.out w42 (HL.out.below B42.out)).mono ?_); rintro x43 w43 ⟨rfl, hb43⟩; have B43 := Lib.hid (below_then B42.out hb43))
                            | (go_at_call 13; (with_reducible refine (nameN E hE' _ rfl lb HEb.out w43 (HL.out.below B43.out)).mono ?_); rintro x44 w44 ⟨rfl, hb44⟩; have B44 := Lib.hid (below_then B43.out hb44)))
                          go_ret
                          exact ⟨rfl, B44.out⟩
                        · subst h9
                          clear hla hlb
                          go_wp2_with (first
                            | (go_at_call 13; (with_reducible refine (nameN N hN' _ rfl la HA.out wr (HL.out.below HBF.out)).mono ?_); rintro x41 w41 ⟨rfl, hb41⟩; have B41 := Lib.hid (below_then HBF.out hb41))
                            | (go_at_call 15; (with_reducible refine (numberN _ la rfl N 0 HNA.out _ (HL.out.below B41.out)).mono ?_); rintro x42 w42 ⟨rfl, hb42⟩; have B42 := Lib.hid (below_then B41.out hb42)))
                          go_ret
                          exact ⟨rfl, B42.out⟩
                        · have hls : Op.bytesLess la lb = false := by rw [← hla, ← hlb]; exact bytesLess_asymm _ _ (nameL_less E N hE' hN' h9)
                          have hne : ((N : Int) == E) = false := by rw [beq_eq_false_iff_ne]; omega
                          have h10 : ¬ (N : Int) < (E : Int) := by omega
                          have h11 : ¬ N < E := by omega
                          clear hla hlb
                          go_wp2_with (first
                            | (go_at_call 13; (with_reducible refine (nameN N hN' _ rfl la HA.out wr (HL.out.below HBF.out)).mono ?_); rintro x41 w41 ⟨rfl, hb41⟩; have B41 := Lib.hid (below_then HBF.out hb41))
                            | (go_at_call 15; (with_reducible refine (numberN _ la rfl N 0 HNA.out _ (HL.out.below B41.out)).mono ?_); rintro x42 w42 ⟨rfl, hb42⟩; have B42 := Lib.hid (below_then B41.out hb42))
                            | (go_at_call 13; (with_reducible refine (nameN N hN' _ rfl la HA.out w42 (HL.out.below B42.out)).mono ?_); rintro x43 w43 ⟨rfl, hb43⟩; have B43 := Lib.hid (below_then B42.out hb43))
                            | (go_at_call 13; (with_reducible refine (nameN E hE' _ rfl lb HEb.out w43 (HL.out.below B43.out)).mono ?_); rintro x44 w44 ⟨rfl, hb44⟩; have B44 := Lib.hid (below_then B43.out hb44)))
                          go_ret
                          exact ⟨rfl, B44.out⟩
theorem wholeSegment_all (N E X at_ z : Int) (hN : 0 ≤ N ∧ N ≤ 18446744073709551615) (hE : 0 ≤ E ∧ E ≤ 18446744073709551615) (hx : 0 ≤ X ∧ X ≤ 255) (hat : 0 ≤ at_ ∧ at_ ≤ 4294967295) (hz : 0 ≤ z ∧ z ≤ 255) (A : Option Addr) (ps : List PtV) (n c : Nat) (w : World) (hL : Laid8 w) (hP : Prts w A ps) (hn : n = ps.length) (hn6 : n ≤ 1048576) :
    Calls Tryz.prog 11 #[.int .u64 N, .int .u64 E, .int .u8 X, .slice A n c, .int .u32 at_, .int .u8 z] w fun r w' => r = .returned (.bool true) ∧ Below w.heap.size w w' := by
  obtain ⟨N, rfl⟩ := Int.eq_ofNat_of_zero_le hN.1
  obtain ⟨E, rfl⟩ := Int.eq_ofNat_of_zero_le hE.1
  obtain ⟨X, rfl⟩ := Int.eq_ofNat_of_zero_le hx.1
  obtain ⟨a, rfl⟩ := Int.eq_ofNat_of_zero_le hat.1
  obtain ⟨z, rfl⟩ := Int.eq_ofNat_of_zero_le hz.1
  exact wholeSegment_calls N E X (by omega) (by omega) (by omega) A ps n c a z (by omega) (by omega) w hL hP hn hn6
end Go.Proofs.YtpmnnnbkbcpgjaaGreatDoor
