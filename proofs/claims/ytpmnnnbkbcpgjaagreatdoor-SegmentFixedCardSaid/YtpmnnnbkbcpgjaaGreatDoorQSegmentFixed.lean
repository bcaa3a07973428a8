import Derived.Test.YtpmnnnbkbcpgjaaGreatDoorQSegmentReads
import Derived.Test.YtpmnnnbkbcpgjaaGreatDoorQSegNames
import Derived.Test.YtpmnnnbkbcpgjaaGreatDoorQWireCut
import Derived.Deep.RegionLaw
/- The walk of notarylaw08.SegmentFixed. -/
namespace Go.Proofs.YtpmnnnbkbcpgjaaGreatDoor
open Go.RowKit

def str9 : List (List UInt8) := [[], [115, 101, 103, 45], [115, 101, 103, 45, 55], [115, 101, 103, 45, 49, 56, 52, 52, 54, 55, 52, 52, 48, 55, 51, 55, 48, 57, 53, 53, 49, 54, 49, 54], [115, 101, 103, 45, 48, 48, 48, 48, 48, 48, 48, 48, 48, 48, 48, 48, 48, 48, 48, 48, 48, 48, 48, 120], [115, 101, 103, 45, 48, 48, 48, 48, 48, 48, 48, 48, 48, 48, 48, 48, 48, 48, 48, 48, 48, 48, 48, 48, 55], [83, 101, 103, 45, 48, 48, 48, 48, 48, 48, 48, 48, 48, 48, 48, 48, 48, 48, 48, 48, 48, 48, 48, 55], [115, 101, 103, 45, 57, 57, 57, 57, 57, 57, 57, 57, 57, 57, 57, 57, 57, 57, 57, 57, 57, 57, 57, 57], [115, 101, 103, 43, 48, 48, 48, 48, 48, 48, 48, 48, 48, 48, 48, 48, 48, 48, 48, 48, 48, 48, 48, 55]]
theorem str9_no : str9.map numberF = List.replicate 9 (0, 3) := by kernel_rfl
theorem str9_at (j : Nat) (hj : j < 9) (l : List UInt8) (h : str9[j]? = some l) : numberF l = (0, 3) := by
  have h1 : (str9.map numberF)[j]? = some (numberF l) := by rw [List.getElem?_map, h]; rfl
  rw [str9_no, List.getElem?_replicate, if_pos hj] at h1
  exact (Option.some.inj h1).symm
def nMax : List UInt8 := [115, 101, 103, 45, 49, 56, 52, 52, 54, 55, 52, 52, 48, 55, 51, 55, 48, 57, 53, 53, 49, 54, 49, 53]
theorem nameL_max : nameL 18446744073709551615 = nMax := by
  rw [nameL_pad 18446744073709551615 (by decide)]
  decide
theorem nameMax (w : World) (hL : Laid8 w) : Calls Tryz.prog 13 #[.int .u64 18446744073709551615] w fun e w' => e = .returned (.string ⟨#[115, 101, 103, 45, 49, 56, 52, 52, 54, 55, 52, 52, 48, 55, 51, 55, 48, 57, 53, 53, 49, 54, 49, 53]⟩) ∧ Below w.heap.size w w' := by
  have := name_calls 18446744073709551615 (by decide) w hL.tab
  rw [nameL_max] at this
  exact this
theorem encHeadBad (x : Int) (hx : ¬ (1 ≤ x ∧ x ≤ 32)) (w : World) : Calls Tryz.prog 17 #[.agg #[.int .u64 0, .int .u64 0, .int .u64 0, .int .i64 x]] w fun r w' => ∃ A c, r = .returned (.tuple #[.slice A 0 c, .int .i64 1]) ∧ Below w.heap.size w w' :=
  (encHeadN 0 0 0 x (by decide) (by decide) (by decide) [] 1 (by unfold encH; rw [if_neg hx]) 0 rfl w).mono fun r w' ⟨A, c, h1, h2⟩ => ⟨A, c, h1, h2.below⟩
def hF : HdV := ⟨1, 1, 0, 32⟩
theorem hF_ok : HdOk hF := ⟨by decide, by decide, by decide, by decide, by decide⟩
theorem encHeadF (w : World) : Calls Tryz.prog 17 #[.agg #[.int .u64 1, .int .u64 1, .int .u64 0, .int .i64 32]] w fun r w' => ∃ A c, r = .returned (.tuple #[.slice A 48 c, .int .i64 0]) ∧ NewB w w' (.slice A 48 c) (headL hF) :=
  encHeadN 1 1 0 32 (by decide) (by decide) (by decide) (headL hF) 0 rfl 48 (headL_length _).symm w
theorem batchBad (f : Nat) (V : Int) (hV : V = f) (hf : f ≤ 18446744073709551615) (A : Option Addr) (n c : Nat) (es : List EnX) (l : List En) (w : World) (h : Ents w A es) (he : ensOf es = l) (hn : n = es.length) (hl : n ≤ 65) (e : Nat) (E : Int) (hE : E = e) (hq : segB f l = ([], e)) :
    Calls Tryz.prog 20 #[.agg #[.int .u64 V, .slice A n c]] w fun r w' => ∃ A' c', r = .returned (.tuple #[.slice A' 0 c', .int .i64 E]) ∧ Below w.heap.size w w' := by
  subst hE he
  exact (segBatch_calls f V hV hf A n c es w h hn (by omega) [] e hq 0 rfl).mono fun _ _ ⟨A', c', h2, h3⟩ => ⟨A', c', h2, h3.below⟩
theorem ents_void (w : World) : Ents w none [] := ⟨fun i hi => absurd hi (by simp), fun x hx => absurd hx (by simp)⟩
theorem seg0_bad : segB 0 [] = ([], 3) := by kernel_rfl
theorem seg65_bad : segB 0 (List.replicate 65 ⟨0, [], []⟩) = ([], 2) := by kernel_rfl
def q22 : List UInt8 := [245, 0, 0, 0, 4, 0, 0, 0, 0, 0, 0, 0, 0, 3, 60, 217, 238, 0, 1, 2, 0, 95]
theorem seg1_q : segB 0 [⟨2, [], []⟩] = (q22, 0) := by decide +kernel
theorem readF_48 : readF (headL hF) = ⟨hF, [], 48, 0⟩ := by
  have := readF_all hF hF_ok [] trivial
  simpa [frB, ixB] using this
theorem readF_47 : readF ((headL hF).take 47) = noSeg := readF_none _ (by decide +kernel)
theorem readF_0 : readF [] = noSeg := readF_none _ next_nil
theorem readF_22 : readF q22 = noSeg := by
  unfold readF
  rw [if_neg (by decide +kernel)]
def z0E : EnX := (⟨0, [], []⟩, ⟨none, 0, none, 0⟩)
theorem z65_ens : ensOf (List.replicate 65 z0E) = List.replicate 65 ⟨0, [], []⟩ := by unfold ensOf; rw [List.map_replicate]; rfl
theorem z65_len : 65 = (List.replicate 65 z0E).length := by rw [List.length_replicate]
theorem ents_row {w : World} {g : Nat} {T : TypeId} {es : List EnX} (h : Row w g T (es.flatMap cellsE)) (hok : ∀ x ∈ es, EnOk w x.1 x.2) : Ents w (some ⟨g, 0, none⟩) es := by
  refine ⟨fun i hi => ?_, hok⟩
  obtain ⟨c0, c1, c2⟩ := cellsE_get es i es[i] (List.getElem?_eq_getElem hi)
  exact ⟨⟨g, 0, none⟩, rfl, by rw [addr_at, h.cell, Nat.zero_add]; exact c0, by rw [addr_at, h.cell, Nat.zero_add]; exact c1, by rw [addr_at, h.cell, Nat.zero_add]; exact c2⟩
theorem one_ents (w : World) : Ents (w.alloc (.cells #[.int .u8 2, .slice none 0 0, .slice none 0 0] 72)) (some ⟨w.heap.size, 0, none⟩) [(⟨2, [], []⟩, ⟨none, 0, none, 0⟩)] :=
  ents_row (Row.fresh w w.heap.size rfl 72 _ _ rfl) fun x hx => by
    rw [List.mem_singleton.1 hx]
    exact ⟨by show 2 ≤ 255; decide, RB.void _, RB.void _⟩
theorem zeros_ents {w5 : World} {base g : Nat} {L : List Value} (h5 : w5.ownsRow base 72 3 (.slice (some ⟨g, 0, none⟩) 65 65) 65 L) (hL : L = (List.replicate 65 z0E).flatMap cellsE := by kernel_rfl) : Ents w5 (some ⟨g, 0, none⟩) (List.replicate 65 z0E) := by
  refine ents_row (g := g) (T := 72) ?_ fun x hx => ?_
  · rcases h5.2 with ⟨h0, _⟩ | ⟨g', cap', cur, hv, hbg, hh, hn', hc', hs', ht'⟩
    · exact absurd h0 (by simp)
    · obtain ⟨rfl, rfl⟩ : g' = g ∧ cap' = 65 := by simp at hv; exact ⟨hv.1.symm, hv.2.symm⟩
      refine ⟨?_⟩
      rw [hh]
      congr 2
      rw [List.take_of_length_le (by rw [Array.length_toList, hs']; omega)] at ht'
      rw [← Array.toList_inj, ht', hL]
  · rw [List.eq_of_mem_replicate hx]
    exact ⟨by show 0 ≤ 255; decide, RB.void _, RB.void _⟩
theorem batch22 (A : Option Addr) (c : Nat) (w : World) (h : Ents w A [(⟨2, [], []⟩, ⟨none, 0, none, 0⟩)]) :
    Calls Tryz.prog 20 #[.agg #[.int .u64 0, .slice A 1 c]] w fun r w' => ∃ A' c', r = .returned (.tuple #[.slice A' 22 c', .int .i64 0]) ∧ NewB w w' (.slice A' 22 c') q22 :=
  segBatch_calls 0 0 rfl (by decide) A 1 c _ w h rfl (by decide) q22 0 seg1_q 22 rfl
theorem read48 (A : Option Addr) (c : Nat) (w : World) (hp : RB w A c (headL hF)) : Calls Tryz.prog 24 #[.slice A 48 c] w fun r w' => ∃ A' c', r = .returned (.tuple #[.agg #[.int .u64 1, .int .u64 1, .int .u64 0, .int .i64 32, .slice A' 0 c', .int .i64 48], .int .i64 0]) ∧ Below w.heap.size w w' := by
  have := segRead8 (headL hF) _ readF_48 (by rw [headL_length]; decide) 0 rfl A c w hp
  rw [headL_length] at this
  exact this.mono fun r w' ⟨A', c', bs, h1, _, _, h2⟩ => ⟨A', c', h1, h2⟩
theorem readBad (P : List UInt8) (hs : readF P = noSeg) (n : Nat) (hn : n = P.length) (A : Option Addr) (c : Nat) (w : World) (hp : RB w A c P) (hl : P.length ≤ 140737488355328 := by first | decide | (rw [List.length_take, headL_length]; decide)) : Calls Tryz.prog 24 #[.slice A n c] w fun r w' => ∃ v, r = .returned (.tuple #[v, .int .i64 3]) ∧ Below w.heap.size w w' := by
  subst hn
  exact (segRead8 P _ hs hl 0 rfl A c w hp).mono fun r w' ⟨A', c', bs, h1, _, _, h2⟩ => ⟨_, h1, h2⟩
set_option maxHeartbeats 1000000 in
set_option maxRecDepth 100000 in
theorem segmentFixed_calls (w : World) (hL : Laid8 w) : Calls Tryz.prog 9 #[] w fun e w' => e = .returned (.bool true) ∧ Below w.heap.size w w' := by
  have HL := Lib.hid hL
  clear hL
  go_enter Tryz.func9, Tryz.ntmps9
  go_wp2_with (first
    | (go_at_call 12; (with_reducible refine (awake8_calls _ HL.out).mono ?_); rintro r0 w0 ⟨rfl, hb0⟩; have B0 := Lib.hid hb0)
    | (go_at_call 13; (with_reducible refine (nameMax _ (HL.out.below B0.out)).mono ?_); rintro r1 w1 ⟨rfl, hb1⟩; have B1 := Lib.hid (belowA (below_then B0.out hb1) (.cells (str9.map fun l => Value.string ⟨l.toArray⟩).toArray 9)); have R1 := Lib.hid (Row.fresh w1 w1.heap.size rfl 9 (str9.map fun l => Value.string ⟨l.toArray⟩) (str9.map fun l => Value.string ⟨l.toArray⟩).toArray rfl)))
  generalize ha3 : (⟨w1.heap.size, 0, none⟩ : Addr) = a3 at *
  have HA3 := Lib.hid ha3
  clear ha3
  go_loopw [2, 3, 4, 26] (fun _ _ _ iv wr => ∃ j : Nat, j ≤ 9 ∧ iv = .int .i64 j ∧ Below w.heap.size w wr ∧ Row wr w1.heap.size 9 (str9.map fun l => Value.string ⟨l.toArray⟩)) (fun _ _ _ iv _ => 9 - (intOf iv).toNat)
  case atStart => exact ⟨0, Nat.zero_le _, rfl, B1.out, R1.out⟩
  case round =>
    obtain ⟨j, hj, rfl, HBB, HR⟩ := hrel
    by_cases hlt : j < 9
    · obtain ⟨l, hl⟩ : ∃ l, str9[j]? = some l := ⟨_, List.getElem?_eq_getElem hlt⟩
      have HV := Lib.hid (str9_at j hlt l hl)
      have k0 : wr.cell? (a3.add j) = some (.string ⟨l.toArray⟩) := by
        rw [← HA3.out, addr_at, Nat.zero_add]
        exact HR.c j _ (by rw [List.getElem?_map, hl]; rfl)
      have HBB := Lib.hid HBB
      have HR := Lib.hid HR
      clear hl
      go_wp2_with (go_at_call 15; (with_reducible refine (numberN ⟨l.toArray⟩ l rfl 0 3 HV.out _ (HL.out.below HBB.out)).mono ?_); rintro r2 w2 ⟨rfl, hb2⟩)
      go_roundw
      case rel => exact ⟨j + 1, by omega, by go_num, below_then HBB.out hb2, HR.out.new hb2⟩
      case measure => simp [intOf]; omega
    · obtain rfl : j = 9 := by omega
      clear hlt HR B1 R1 B0
      have HB1 := Lib.hid HBB
      clear HBB
      obtain ⟨inf, hinf⟩ : ∃ i, Tryz.prog.info? 72 = some i := ⟨_, rfl⟩
      have hz3 : inf.zero = some (.agg #[.int .u8 0, .slice none 0 0, .slice none 0 0]) ∧ inf.size = 3 ∧ inf.bytes = 56 := by
        have h1 : (Tryz.prog.info? 72).map (fun i => (i.zero, i.size, i.bytes)) = some (some (.agg #[.int .u8 0, .slice none 0 0, .slice none 0 0]), 3, 56) := by kernel_rfl
        rw [hinf] at h1
        simp only [Option.map_some, Option.some.injEq, Prod.mk.injEq] at h1
        exact h1
      have HINF := Lib.hid hinf
      have HZ3 := Lib.hid hz3
      clear hinf hz3
      have tk0 := trivial
      go_wp2_with (first
        | (go_at_call 17; have tk := tk0; (with_reducible refine (encHeadBad 33 (by decide) _).mono ?_); rintro r2 w2 ⟨A2, c2, rfl, hb2⟩; have B2 := Lib.hid (below_then HB1.out hb2))
        | (go_at_call 17; (with_reducible refine (encHeadBad 0 (by decide) _).mono ?_); rintro r3 w3 ⟨A3, c3, rfl, hb3⟩; have B3 := Lib.hid (below_then B2.out hb3))
        | (go_at_call 20; (with_reducible refine (batchBad 0 0 rfl (by decide) none 0 0 [] [] _ (ents_void _) rfl rfl (by decide) 3 3 rfl seg0_bad).mono ?_); rintro r4 w4 ⟨A4, c4, rfl, hb4⟩; have B4 := Lib.hid (below_then B3.out hb4))
        | (refine wpList_make_full _ rfl _ _ 33 rfl w4.heap.size 72 inf _ 3 Tryz.underlying33 HINF.out HZ3.out.1 HZ3.out.2.1 .i64 .i64 65 65 65 rfl rfl rfl rfl (by rw [HZ3.out.2.2]; omega) (by unfold maxLen; omega) (Nat.le_refl _) fun w5 h5 hg5 => ?_; have E5 := Lib.hid (zeros_ents h5); have b5 : Below w4.heap.size w4 w5 := ⟨hg5.os, hg5.tape, hg5.output, hg5.size, fun k hk => hg5.block k hk (by simp)⟩; have B5 := Lib.hid (below_then B4.out b5); clear h5 hg5 b5)
        | (go_at_call 20; (with_reducible refine (batchBad 0 0 rfl (by decide) _ 65 65 _ _ _ E5.out z65_ens z65_len (by decide) 2 2 rfl seg65_bad).mono ?_); rintro r6 w6 ⟨A6, c6, rfl, hb6⟩; have B6 := Lib.hid (below_then B5.out hb6))
        | (go_at_call 17; (with_reducible refine (encHeadF _).mono ?_); rintro r7 w7 ⟨A7, c7, rfl, hn7⟩; have B7 := Lib.hid (below_then B6.out hn7.below); have P7 := Lib.hid hn7.own.rb; have hc7 := fun w' : World => run_cut_h w' A7 48 c7 47 47 rfl (by have := hn7.own.rb.len; rw [headL_length] at this; omega); have tk7 := trivial)
        | (go_at_call 24; have tk := tk7; clear tk tk7; (with_reducible refine (read48 A7 c7 _ P7.out).mono ?_); rintro r8 w8 ⟨A8, c8, rfl, hb8⟩; have n8 := Bl.alloc w8 (.cells #[.int .u64 1, .int .u64 1, .int .u64 0, .int .i64 32, .slice A8 0 c8, .int .i64 48] 51); have B8 := Lib.hid (below_then (below_then B7.out hb8) n8); have P8 := Lib.hid ((P7.out.new hb8).new n8); have S8 := Lib.hid (Row.fresh w8 w8.heap.size rfl 51 [.int .u64 1, .int .u64 1, .int .u64 0, .int .i64 32, .slice A8 0 c8, .int .i64 48] #[.int .u64 1, .int .u64 1, .int .u64 0, .int .i64 32, .slice A8 0 c8, .int .i64 48] rfl); have tk8 := trivial)
        | (go_at_call 24; have tk := tk8; clear tk tk8; (with_reducible refine (readBad ((headL hF).take 47) readF_47 47 (by rw [List.length_take, headL_length]; decide) A7 c7 _ (P8.out.take 47)).mono ?_); rintro r9 w9 ⟨V9, rfl, hb9⟩; have B9 := Lib.hid (below_then B8.out hb9); have S9 := Lib.hid (S8.out.new hb9); have tk9 := trivial)
        | (go_at_call 24; have tk := tk9; clear tk tk9; (with_reducible refine (readBad [] readF_0 0 rfl none 0 _ (RB.void _)).mono ?_); rintro r10 w10 ⟨V10, rfl, hb10⟩; have n10 := Bl.alloc w10 (.cells #[.int .u8 2, .slice none 0 0, .slice none 0 0] 72); have B10 := Lib.hid (below_then (below_then B9.out hb10) n10); have S10 := Lib.hid ((S9.out.new hb10).new n10); have E10 := Lib.hid (one_ents w10); have tk10 := trivial)
        | (go_at_call 20; (with_reducible refine (batch22 _ _ _ E10.out).mono ?_); rintro r11 w11 ⟨A11, c11, rfl, hn11⟩; have B11 := Lib.hid (below_then B10.out hn11.below); have S11 := Lib.hid (S10.out.new hn11.below); have P11 := Lib.hid hn11.own.rb)
        | (go_at_call 24; have tk := tk10; clear tk tk10; (with_reducible refine (readBad q22 readF_22 22 rfl A11 c11 _ P11.out).mono ?_); rintro r12 w12 ⟨V12, rfl, hb12⟩; have B12 := Lib.hid (below_then B11.out hb12); have S12 := S11.out.new hb12; have s4 := S12.c 4 _ rfl; have s5 := S12.c 5 _ rfl))
      go_ret
      exact ⟨rfl, B12.out⟩
end Go.Proofs.YtpmnnnbkbcpgjaaGreatDoor
