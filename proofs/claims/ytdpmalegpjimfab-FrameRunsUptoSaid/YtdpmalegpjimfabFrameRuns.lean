/- FrameRuns. -/
import Derived.Test.YtdpmalegpjimfabFrameFits
import Derived.Test.YtdpmalegpjimfabFrameRunMath
import Derived.Test.YtdpmalegpjimfabPieces
import Derived.Test.YtdpmalegpjimfabFrameWalks
import Derived.Test.YtdpmalegpjimfabWireCut
namespace Go.Proofs.Ytdpmalegpjimfab
open Go.RowKit
open FrameMath (laid)

theorem frOf_get (l : List FrV) (i : Nat) (f : FrV) (h : l[i]? = some f) : frOf (l.take (i + 1)) = frOf (l.take i) ++ [(f.place, f.pay)] := by
  obtain ⟨hi, rfl⟩ := List.getElem?_eq_some_iff.1 h
  unfold frOf
  rw [List.take_succ_eq_append_getElem hi, List.map_append]; rfl
theorem runL_snoc (ps : List (Nat × List UInt8)) (p : Nat × List UInt8) : runL (ps ++ [p]) = runL ps ++ laid p.1 p.2 := by simp [runL]
theorem runL_le (l : List FrV) : (runL (frOf l)).length ≤ 6 * bulkPc l := by
  induction l with
  | nil => simp [runL, frOf]
  | cons f l ih =>
    have := FrameMath.laid_length f.place f.pay
    simp only [runL, frOf, bulkPc, List.map_cons, List.flatMap_cons, List.length_append, List.sum_cons] at ih ⊢
    omega
theorem bulkPc_take (l : List FrV) (i : Nat) : bulkPc (l.take i) ≤ bulkPc l := by
  have h := congrArg bulkPc (List.take_append_drop i l)
  simp only [bulkPc, List.map_append, List.sum_append] at h ⊢
  omega

set_option maxHeartbeats 400000 in
set_option maxRecDepth 100000 in
theorem runLaid_calls (A : Option Addr) (l : List FrV) (n c N : Nat) (w : World) (h : Pcs w A l) (hn : n = l.length) (hs : bulkPc l ≤ 1048576) (hf : ∀ f ∈ l, 1 ≤ f.pay.length ∧ f.pay.length ≤ 65535) (hN : N = (runL (frOf l)).length) :
    Calls Try.prog 21 #[.slice A n c] w fun e w' => ∃ A' c', e = .returned (.tuple #[.slice A' N c', .bool true]) ∧ NewB w w' (.slice A' N c') (runL (frOf l)) := by
  subst hn
  have hlen := Nat.le_trans (bulkPc_len l) hs
  have HN := Lib.hid hN
  clear hN
  go_enter Try.func21, Try.ntmps21
  go_wp2
  go_loopw [4, 11] (fun v i wr => ∃ (j : Nat) (p : List UInt8) (A1 : Option Addr) (c1 : Nat), j ≤ l.length ∧ i = .int .i64 j ∧ v = .slice A1 p.length c1 ∧ Hid (p = runL (frOf (l.take j))) ∧ OB wr w.heap.size 5 (.slice A1 p.length c1) p ∧ Below w.heap.size w wr) (fun _ i _ => l.length - (intOf i).toNat)
  case atStart => exact ⟨0, [], none, 0, Nat.zero_le _, rfl, rfl, Lib.hid rfl, OB.nil _ _ _, Below.refl _ _⟩
  case round =>
    obtain ⟨j, p, A1, c1, hj, rfl, rfl, HP, HO, HB⟩ := hrel
    by_cases hlt : j < l.length
    · obtain ⟨a, f, rfl, ho, hmem, hok, k0, k1⟩ := (h.new HB).at_ j hlt
      obtain ⟨f1, f2⟩ := hf f hmem
      have hpl := hok.place
      have HL := Lib.hid (rfl : laid f.place f.pay = laid f.place f.pay)
      generalize hld : laid f.place f.pay = ld at HL
      have HLD := Lib.hid hld
      have HLL := Lib.hid (show ld.length = f.pay.length + 18 by rw [← hld]; exact FrameMath.laid_length _ _)
      have HS := Lib.hid (show p ++ ld = runL (frOf (l.take (j + 1))) by rw [HP.out, frOf_get l j f ho, runL_snoc, hld])
      have HZ : Hid (p.length + ld.length ≤ 281474976710656) := by
        have h1 := runL_le (l.take j)
        have h2 := bulkPc_take l j
        have h3 := HLL.out
        have h4 := congrArg List.length HP.out
        exact Lib.hid (by omega)
      have HX := Lib.hid (below_alloc1 (Below.refl wr.heap.size wr) (Nat.le_refl _) (.cells #[.int .u64 f.place, .slice f.A f.pay.length f.c] 25))
      have HQ := Lib.hid (Pair.fresh wr (.int .u64 f.place) (.slice f.A f.pay.length f.c) 25)
      clear hld ho
      go_wp2
      have x0 := HQ.out.c0
      have x1 := HQ.out.c1
      go_region_held3 (fun w' => w'.cell? ⟨wr.heap.size, 0, none⟩ = some (.int .u64 f.place) ∧ w'.cell? ⟨wr.heap.size, 1, none⟩ = some (.slice f.A f.pay.length f.c)) (go_keep) (first
        | (go_at_call 15; go_loud (with_reducible refine (twinR f.A f.pay f.pay.length f.c _ ((hok.P.new HX.out).new (below_drew _ _)) rfl (by omega)).mono ?_); rintro e1 w1 ⟨A2, c2, rfl, hn1⟩; have B1 := Lib.hid (below_then HX.out.drew hn1.below); have P1 := HQ.out.new ((below_drew _ _).trans hn1.below); have y0 := P1.c0; have y1 := P1.c1)
        | (go_at_call 14; go_loud (with_reducible refine (made_ok f.place f.place rfl hpl A2 f.pay ld f.pay.length (f.pay.length + 18) c2 _ hn1.own.rb rfl f1 f2 rfl HLD.out).mono ?_); rintro e2 w2 ⟨A3, c3, rfl, hn2⟩; have B2 := Lib.hid (below_then B1.out hn2.below); have P2 := P1.new hn2.below; have z0 := P2.c0; have z1 := P2.c1))
      go_wp2_with (go_at_call 17; go_loud (with_reducible refine (joinN A1 A3 p ld _ p.length (f.pay.length + 18) (runL (frOf (l.take (j + 1)))).length c1 c3 _ ((HO.rb).new B2.out) hn2.own.rb rfl HLL.out.symm (by rw [← HS.out, List.length_append]) HS.out HZ.out).mono ?_); rintro e3 w3 ⟨A4, c4, rfl, hn3⟩)
      go_roundw
      case rel => exact ⟨j + 1, _, A4, c4, by omega, by go_num, rfl, Lib.hid rfl, hn3.own.mono (Nat.le_trans HB.size B2.out.size), below_then (below_then HB B2.out) hn3.below⟩
      case measure => simp [intOf]; omega
    · obtain rfl : j = l.length := by omega
      have HPP := Lib.hid (show p = runL (frOf l) by rw [HP.out, List.take_length])
      clear hlt
      go_wp2
      go_ret2
      refine ⟨A1, c1, by rw [HN.out, ← HPP.out]; rfl, ?_, HB⟩
      rw [HN.out, ← HPP.out]; exact HO
theorem noughtsI (M : Int) (m : Nat) (hM : M = m) (h : m ≤ 281474976710656) : ∃ Z : Array Value, Z.toList = encB (List.replicate m 0) ∧ ∀ w : World, (Instr.makeSlice 23 (.int .i64 M) (.int .i64 M)).run Try.prog w = .ok (.slice (some ⟨w.heap.size, 0, none⟩) m m) (w.alloc (.cells Z 5)) := by
  subst hM; exact make_noughts m h

set_option maxHeartbeats 2000000 in
set_option maxRecDepth 100000 in
theorem frameRuns_calls (A : Option Addr) (l : List FrV) (n c : Nat) (cut : Int) (hcut : -9223372036854775808 ≤ cut ∧ cut ≤ 9223372036854775807) (ns : Int) (hns : -9223372036854775808 ≤ ns ∧ ns ≤ 9223372036854775807) (w : World) (h : Pcs w A l) (hn : n = l.length) (hs : bulkPc l ≤ 1048576) :
    Calls Try.prog 4 #[.slice A n c, .int .i64 cut, .int .i64 ns] w fun e w' => e = .returned (.bool true) ∧ Below w.heap.size w w' := by
  subst hn
  have hlen := Nat.le_trans (bulkPc_len l) hs
  have hcase : ∃ (I M : Int) (i m : Nat), I = i ∧ M = m ∧ i < 21 ∧ m ≤ 5000 ∧ ((I = 0 ∧ M = 0 ∧ cut < 0) ∨ (I = 0 ∧ M = 0 ∧ ¬ cut < 0 ∧ 21 ≤ cut) ∨ (I = 0 ∧ M = 0 ∧ ¬ cut < 0 ∧ ¬ 21 ≤ cut ∧ ns < 0) ∨ (I = 0 ∧ M = 0 ∧ ¬ cut < 0 ∧ ¬ 21 ≤ cut ∧ ¬ ns < 0 ∧ 5000 < ns) ∨ (I = cut ∧ M = ns ∧ ¬ cut < 0 ∧ ¬ 21 ≤ cut ∧ ¬ ns < 0 ∧ ¬ 5000 < ns)) := by
    by_cases g : ¬ cut < 0 ∧ ¬ 21 ≤ cut ∧ ¬ ns < 0 ∧ ¬ 5000 < ns
    · exact ⟨cut, ns, cut.toNat, ns.toNat, by omega, by omega, by omega, by omega, .inr (.inr (.inr (.inr ⟨rfl, rfl, g⟩)))⟩
    · exact ⟨0, 0, 0, 0, rfl, rfl, by omega, by omega, by omega⟩
  obtain ⟨I, M, i, m, hI, hM, hi, hm, hcase⟩ := hcase
  have hq := torn_none 1 [5, 6, 7] (by decide) (by decide) i m (by simpa using hi)
  have hll := FrameMath.laid_length 1 [5, 6, 7]
  have hll2 : (laid 1 [5, 6, 7]).length = 21 := hll
  generalize hld : laid 1 [5, 6, 7] = ld at *
  have htl : (ld.take i ++ List.replicate m 0).length = i + m := by rw [List.length_append, List.length_take, List.length_replicate, hll2]; omega
  obtain ⟨Z, hZ, hmk⟩ := noughtsI M m hM (by omega)
  have hsl := fun (w' : World) (A' : Option Addr) (c' : Nat) (h : 21 ≤ c') => run_cut_h w' A' 21 c' I i hI (by omega)
  have HSL := Lib.hid hsl
  have HMK := Lib.hid hmk
  have HIL := Lib.hid (show i = (ld.take i).length by rw [List.length_take, hll2]; omega)
  have HLL := Lib.hid hll2
  have HLD := Lib.hid hld
  have HZ := Lib.hid hZ
  have HQ0 := Lib.hid hq
  generalize hT : ld.take i ++ List.replicate m 0 = T at htl
  have HT := Lib.hid hT
  have HTL := Lib.hid htl
  have h1 := Lib.hid (show (1 : Int) = ((1 : Nat) : Int) from rfl)
  have hlit := Lib.hid (fun (w : World) (e : TypeId) => RB.lit w e (0, 0) #[.int .u8 5, .int .u8 6, .int .u8 7] [5, 6, 7] rfl 3 rfl (by decide))
  clear hI hM hq hll hll2 hld htl hT hsl hmk hZ
  go_enter Try.func4, Try.ntmps4
  go_wp2_with (go_at_call 13; (with_reducible refine (fawake_calls _).mono ?_); rintro e0 w0 ⟨rfl, hb0⟩)
  go_loopw [21] (fun iv wr => ∃ j : Nat, j ≤ l.length ∧ iv = .int .i64 j ∧ Hid (∀ k f, k < j → l[k]? = some f → 1 ≤ f.pay.length ∧ f.pay.length ≤ 65535) ∧ Below w.heap.size w wr) (fun iv _ => l.length - (intOf iv).toNat)
  case atStart => exact ⟨0, Nat.zero_le _, rfl, Lib.hid (fun k f hk => by omega), hb0⟩
  case round =>
    obtain ⟨j, hj, rfl, HF, HB⟩ := hrel
    by_cases hlt : j < l.length
    · obtain ⟨a, f, rfl, ho, hmem, hok, k0, k1⟩ := (h.new HB).at_ j hlt
      have HQ := Lib.hid (Pair.fresh wr (.int .u64 f.place) (.slice f.A f.pay.length f.c) 25)
      have HO := Lib.hid ho
      clear ho hcase
      by_cases hfit : 1 ≤ f.pay.length ∧ f.pay.length ≤ 65535
      · obtain ⟨f1, f2⟩ := hfit
        go_wp2_with (go_at_call 16; (with_reducible refine (fits_yes f.A f.pay.length f.c _ f1 f2).mono ?_); rintro e9 w9 ⟨rfl, rfl⟩)
        go_roundw
        case rel =>
          refine ⟨j + 1, by omega, by go_num, Lib.hid (fun k g hk hg => ?_), belowA HB _⟩
          by_cases hkj : k = j
          · subst hkj
            rw [HO.out] at hg
            obtain rfl := Option.some.inj hg
            exact ⟨f1, f2⟩
          · exact HF.out k g (by omega) hg
        case measure => simp [intOf]; omega
      · by_cases hlong : 65535 < f.pay.length
        · clear hfit
          go_wp2_with (go_at_call 16; (with_reducible refine (fits_long f.A f.pay.length f.c _ hlong).mono ?_); rintro e9 w9 ⟨rfl, rfl⟩)
          go_ret
          exact ⟨rfl, belowA HB _⟩
        · have HZ0 := Lib.hid (show f.pay.length = 0 by omega)
          clear hfit hlong
          go_wp2_with (go_at_call 16; (with_reducible refine (fits_none f.A f.pay.length f.c _ HZ0.out).mono ?_); rintro e9 w9 ⟨rfl, rfl⟩)
          go_ret
          exact ⟨rfl, belowA HB _⟩
    · obtain rfl : j = l.length := by omega
      have HFA : Hid (∀ f ∈ l, 1 ≤ f.pay.length ∧ f.pay.length ≤ 65535) := Lib.hid (fun f hf => by
        obtain ⟨k, hk, rfl⟩ := List.getElem_of_mem hf
        exact HF.out k _ hk (List.getElem?_eq_getElem hk))
      have hP := h.new HB
      have hokP : ∀ p ∈ frOf l, okP p := by
        intro p hp
        obtain ⟨f, hf, rfl⟩ := List.mem_map.1 hp
        exact ⟨(h.ok f hf).place, HFA.out f hf⟩
      have hsc := scan_run (frOf l) T hokP (by rw [← HT.out]; exact HQ0.out)
      have hrl := runL_le l
      have HR := Lib.hid (rfl : runL (frOf l) = runL (frOf l))
      have hcall := fun w' B' d => runLaid_calls B' l l.length d (runL (frOf l)).length w'
      generalize hRR : runL (frOf l) = R at HR hsc hrl hcall
      have hlf : (frOf l).length = l.length := by simp [frOf]
      have hscan : ∀ (w' : World) (A' : Option Addr) (c' : Nat), RB w' A' c' (R ++ T) → Calls Try.prog 19 #[.slice A' (R.length + (i + m)) c'] w' fun e w'' => ∃ A' c' fs, e = .returned (.tuple #[.slice A' l.length c', .int .i64 R.length]) ∧ FL w'' w'.heap.size 33 (.slice A' l.length c') fs ∧ frOf fs = frOf l ∧ Below w'.heap.size w' w'' := by
        intro w' A' c' h
        have := scan_calls A' _ (R.length + (i + m)) c' w' h (by rw [List.length_append, HTL.out]) (by rw [List.length_append, HTL.out]; omega)
        rw [hsc, hlf] at this
        exact this
      have HSCAN := Lib.hid hscan
      have HCALL := Lib.hid hcall
      have HPP := Lib.hid hP
      have HRL := Lib.hid hrl
      clear hlt hscan hcall hsc hrl hRR hlf hokP hP HR
      have hlit0 := hlit
      rcases hcase with ⟨rfl, rfl, g1⟩ | ⟨rfl, rfl, g1, g2⟩ | ⟨rfl, rfl, g1, g2, g3⟩ | ⟨rfl, rfl, g1, g2, g3, g4⟩ | ⟨rfl, rfl, g1, g2, g3, g4⟩
      all_goals
        go_wp2_with (first
          | (go_at_call 21; go_loud (with_reducible refine (HCALL.out _ A c HPP.out rfl hs HFA.out rfl).mono ?_); rintro e1 w1 ⟨A1, c1, rfl, hn1⟩; have B1 := Lib.hid (below_then HB hn1.below))
          | (go_at_call 14; go_loud (with_reducible refine (made_ok 1 1 h1.out (by decide) _ [5, 6, 7] ld 3 21 3 _ (hlit.out _ _) (by decide) (by decide) (by decide) (by decide) HLD.out).mono ?_); rintro e2 w2 ⟨A2, c2, rfl, hn2⟩; have R1 := Lib.hid (((hn1.own.rb).alloc _).new hn2.below); have B2 := Lib.hid (below_then (belowA B1.out _) hn2.below)))
        have hsl := fun w' => HSL.out w' A2 c2 (by have := hn2.own.rb.len; have := HLL.out; omega)
        have hmk := HMK.out
        have R2 := Lib.hid hn2.own.rb
        go_region_held3 (fun _ => True) (exact trivial) (first
          | (go_at_call 17; (with_reducible refine (joinN A2 (some ⟨w2.heap.size, 0, Option.none⟩) (ld.take i) (List.replicate m 0) T i m (i + m) c2 m _ ?_ ?_ HIL.out (by simp) (by rw [← HIL.out]; simp) HT.out (by rw [← HIL.out]; simp; omega)).mono ?_); (· (repeat (first | exact R2.out.take i | refine RB.alloc ?_ _ | refine RB.drewF ?_))); (· (repeat (first | exact RB.noughts w2 _ Z m HZ.out _ rfl (by omega) | exact RB.noughts w2.drew _ Z m HZ.out _ rfl (by omega) | refine RB.drewF ?_))); rintro e3 w3 ⟨A3, c3, rfl, hn3⟩; have B23 : Hid (Below w2.heap.size w2 w3) := Lib.hid (below_then (by (repeat (first | exact Below.refl _ _ | refine belowA ?_ _ | refine Below.drew ?_))) hn3.below))
          | (go_at_call 17; go_loud (with_reducible refine (joinN A1 A3 R T (R ++ T) R.length (i + m) (R.length + (i + m)) c1 c3 _ (R1.out.new B23.out) hn3.own.rb rfl HTL.out.symm (by rw [HTL.out]) rfl (by have := HRL.out; have := HTL.out; omega)).mono ?_); rintro e4 w4 ⟨A4, c4, rfl, hn4⟩)
          | (go_at_call 19; go_loud (with_reducible refine (HSCAN.out _ A4 c4 hn4.own.rb).mono ?_); rintro e5 w5 ⟨A5, c5, fs, rfl, hf5, he5, hb5⟩; have HE5 := Lib.hid he5; clear he5; have B5 := Lib.hid (below_then (below_then (below_then B2.out B23.out) hn4.below) hb5)))
        have hln : fs.length = l.length := by have := congrArg List.length HE5.out; simpa [frOf] using this
        have HLN := Lib.hid hln
        clear hln hsl hmk
        have hp5 := h.new B5.out
        go_wp2
        go_loopw [87] (fun iv wr => ∃ j : Nat, j ≤ l.length ∧ iv = .int .i64 j ∧ Below w5.heap.size w5 wr) (fun iv _ => l.length - (intOf iv).toNat)
        case atStart => exact ⟨0, Nat.zero_le _, rfl, Below.refl _ _⟩
        case round =>
          obtain ⟨j, hj, rfl, HB6⟩ := hrel
          by_cases hlt : j < l.length
          · obtain ⟨a, f, rfl, ho, hmem, hok, k0, k1⟩ := (hp5.new HB6).at_ j hlt
            obtain ⟨g, hg⟩ : ∃ g, fs[j]? = some g := ⟨_, List.getElem?_eq_getElem (by have := HLN.out; omega)⟩
            have hfg : g.place = f.place ∧ g.pay = f.pay := by
              have := congrArg (·[j]?) HE5.out
              simp only [frOf, List.getElem?_map, ho, hg, Option.map_some, Option.some.injEq, Prod.mk.injEq] at this
              exact this
            have HFG := Lib.hid (show (decide (g.place = f.place) && (g.pay == f.pay)) = true by simp [hfg.1, hfg.2])
            have H1 := hf5.new HB6
            obtain ⟨p1, d1, e1, _, m0, m1⟩ := H1.at_ j g hg
            injection e1 with e1a e1b e1c
            subst e1a; subst e1c
            have r1 := Lib.hid (H1.own g (List.mem_of_getElem? hg)).rb
            simp only [FrV.val] at m1
            have N5 := below_alloc1 (Below.refl wr.heap.size wr) (Nat.le_refl _) (.cells #[.int .u64 f.place, .slice f.A f.pay.length f.c] 25)
            have q5 := Pair.fresh wr (.int .u64 f.place) (.slice f.A f.pay.length f.c) 25
            have m0 := cell_newW N5 m0
            have m1 := cell_newW N5 m1
            have s1 := Lib.hid (r1.out.new N5)
            have s2 := Lib.hid (hok.P.new N5)
            clear hfg hg ho e1b
            go_wp2
            have d0 := q5.c0
            have d1 := q5.c1
            go_region_held3 (fun w' => w'.cell? ⟨wr.heap.size, 0, none⟩ = some (.int .u64 f.place) ∧ w'.cell? ⟨wr.heap.size, 1, none⟩ = some (.slice f.A f.pay.length f.c) ∧ w'.cell? ⟨p1, j * 2, none⟩ = some (.int .u64 g.place) ∧ w'.cell? ⟨p1, j * 2 + 1, none⟩ = some (.slice g.A g.pay.length g.c)) (go_keep) (first
              | (go_at_call 22; go_loud (with_reducible refine (fsameN g.place f.place _ _ g.A f.A g.pay f.pay _ _ g.c f.c _ (s1.out.new (below_drew _ _)) (s2.out.new (below_drew _ _)) rfl rfl true HFG.out rfl rfl).mono ?_); rintro e6 w6 ⟨rfl, hb6⟩; have hb7 := (below_drew _ _).trans hb6; have m0 := cell_newW hb7 m0; have m1 := cell_newW hb7 m1; have q6 := q5.new hb7; have d0 := q6.c0; have d1 := q6.c1))
            go_wp2
            go_roundw
            case rel => exact ⟨j + 1, by omega, by go_num, below_then (belowA HB6 _).drew hb6⟩
            case measure => simp [intOf]; omega
          · obtain rfl : j = l.length := by omega
            clear hlt
            go_wp2
            go_ret
            exact ⟨rfl, below_then B5.out HB6⟩
end Go.Proofs.Ytdpmalegpjimfab
