import Derived.Test.YtpmnnnbkbcpgjaaGreatDoorQBh
import Derived.Test.YtpmnnnbkbcpgjaaGreatDoorQSegRead
import Derived.Test.YtpmnnnbkbcpgjaaGreatDoorQBg
import Derived.Test.YtpmnnnbkbcpgjaaGreatDoorQSameEntry
/- The walk of notarylaw08.awake. -/
namespace Go.Proofs.YtpmnnnbkbcpgjaaGreatDoor
open Go.RowKit Go.Lib
open FrameMath (laid)

def e8 : En := ⟨1, [107], [118]⟩
def h8 : HdV := ⟨3, 2, 5, 4⟩
def n7 : List UInt8 := [115, 101, 103, 45, 48, 48, 48, 48, 48, 48, 48, 48, 48, 48, 48, 48, 48, 48, 48, 48, 48, 48, 48, 55]
theorem nameL_7 : nameL 7 = n7 := by
  rw [nameL_pad 7 (by decide)]
  decide
theorem numberF_7 : numberF n7 = (7, 0) := by rw [← nameL_7]; exact numberF_name 7 (by decide)
theorem h8_ok : HdOk h8 := ⟨by decide, by decide, by decide, by decide, by decide⟩
theorem encBF_8 : encBF 5 [e8] = (encBL 5 [e8], 0) := by decide
theorem okBs_8 : okBs 5 [[e8]] := ⟨encBF_8, trivial⟩
def q8 : List UInt8 := laid 5 (encBL 5 [e8])
theorem q8_length : q8.length = 25 := by
  unfold q8
  rw [FrameMath.laid_length]
  decide
theorem segB_8 : segB 5 [e8] = (q8, 0) := by
  unfold segB
  rw [encBF_8, if_pos rfl]
  rfl
theorem readF_8 : readF (headL h8 ++ q8) = ⟨h8, [(5, [e8])], 73, 0⟩ := by
  have := readF_all h8 h8_ok [[e8]] okBs_8
  have e : frB h8.f [[e8]] = q8 := by show laid 5 (encBL 5 [e8]) ++ [] = _; rw [List.append_nil]; rfl
  rw [e, q8_length] at this
  exact this
theorem head8 (w : World) : Calls Tryz.prog 17 #[.agg #[.int .u64 3, .int .u64 2, .int .u64 5, .int .i64 4]] w fun r w' => ∃ A c, r = .returned (.tuple #[.slice A 48 c, .int .i64 0]) ∧ NewB w w' (.slice A 48 c) (headL h8) :=
  encHeadN 3 2 5 4 (by decide) (by decide) (by decide) (headL h8) 0 rfl 48 (headL_length _).symm w
theorem batch8 (A : Option Addr) (c : Nat) (es : List EnX) (w : World) (h : Ents w A es) (he : ensOf es = [e8]) :
    Calls Tryz.prog 20 #[.agg #[.int .u64 5, .slice A 1 c]] w fun r w' => ∃ A' c', r = .returned (.tuple #[.slice A' 25 c', .int .i64 0]) ∧ NewB w w' (.slice A' 25 c') q8 := by
  have hl : 1 = es.length := by have := congrArg List.length he; simpa [ensOf] using this.symm
  exact segBatch_calls 5 5 rfl (by decide) A 1 c es w h hl (by decide) q8 0 (by rw [he]; exact segB_8) 25 q8_length.symm
theorem read8 (A : Option Addr) (c : Nat) (w : World) (h : RB w A c (headL h8 ++ q8)) :
    Calls Tryz.prog 24 #[.slice A 73 c] w fun r w' => ∃ A' c' bs, r = .returned (.tuple #[.agg #[.int .u64 3, .int .u64 2, .int .u64 5, .int .i64 4, .slice A' 1 c', .int .i64 73], .int .i64 0]) ∧ RdK w w' ⟨h8, [(5, [e8])], 73, 0⟩ (.slice A' 1 c') bs :=
  segReadN A (headL h8 ++ q8) 73 c w h (by rw [List.length_append, headL_length, q8_length]) (by rw [List.length_append, headL_length, q8_length]; decide) _ readF_8
/-- the batch that was read -/
theorem one8 {w w' : World} {s : Seg} {A : Option Addr} {c : Nat} {bs : List BtV} (h : RdK w w' s (.slice A 1 c) bs) (hs : s.bs = [(5, [e8])]) : ∃ g b, A = some ⟨g, 0, none⟩ ∧ bs = [b] ∧ b.f = 5 ∧ ensOf b.es = [e8] ∧ b.es.length = 1 ∧ w'.cell? ⟨g, 0, none⟩ = some (.int .u64 5) ∧ w'.cell? ⟨g, 1, none⟩ = some (.slice b.A 1 b.c) ∧ Ents w' b.A b.es := by
  have he := h.eq
  rw [hs] at he
  match bs, he with
  | [b], he =>
    simp only [List.map_cons, List.map_nil, List.cons.injEq, and_true] at he
    obtain ⟨hf, hen⟩ := Prod.mk.inj he
    have hl : b.es.length = 1 := by have := congrArg List.length hen; simpa [ensOf] using this
    obtain ⟨g, c', hv, _, c0, c1, hb⟩ := h.bl.get 0 b rfl
    injection hv with e1 _ _
    refine ⟨g, b, e1, rfl, hf, hen, hl, ?_, ?_, hb.ents⟩
    · rw [hf] at c0; exact c0
    · have : b.val = .slice b.A 1 b.c := by unfold BtV.val; rw [hl]
      rw [this] at c1; exact c1
theorem sameB8 (A D : Option Addr) (es ds : List EnX) (c c' : Nat) (w : World) (ha : Ents w A es) (hd : Ents w D ds) (he : ensOf es = [e8]) (hd' : ensOf ds = [e8]) :
    Calls Tryz.prog 31 #[.agg #[.int .u64 5, .slice A 1 c], .agg #[.int .u64 5, .slice D 1 c']] w fun r w' => r = .returned (.bool true) ∧ Below w.heap.size w w' := by
  have hl : 1 = es.length := by have := congrArg List.length he; simpa [ensOf] using this.symm
  exact sameB_calls 5 A D es ds 1 1 c c' hl hl w ha hd (he.trans hd'.symm) (by decide)
theorem name7 (w : World) (hL : Laid8 w) : Calls Tryz.prog 13 #[.int .u64 7] w fun e w' => e = .returned (.string ⟨#[115, 101, 103, 45, 48, 48, 48, 48, 48, 48, 48, 48, 48, 48, 48, 48, 48, 48, 48, 48, 48, 48, 48, 55]⟩) ∧ Below w.heap.size w w' := by
  have := name_calls 7 (by decide) w hL.tab
  rw [nameL_7] at this
  exact this
/-- what awake has laid, from block k on -/
structure Aw8 (w0 : World) (k : Nat) (a : World) : Prop where
  below : Below w0.heap.size w0 a
  K : RB a (some ⟨k, 0, none⟩) 1 [107]
  V : RB a (some ⟨k + 1, 0, none⟩) 1 [118]
  en : Row a (k + 1 + 1) 72 [.int .u8 1, .slice (some ⟨k, 0, none⟩) 1 1, .slice (some ⟨k + 1, 0, none⟩) 1 1]
  bt : Row a (k + 1 + 1 + 1) 35 [.int .u64 5, .slice (some ⟨k + 1 + 1, 0, none⟩) 1 1]
theorem Aw8.new {w0 a b : World} {k : Nat} (h : Aw8 w0 k a) (hb : Below a.heap.size a b) : Aw8 w0 k b := ⟨below_then h.below hb, h.K.new hb, h.V.new hb, h.en.new hb, h.bt.new hb⟩
theorem Aw8.start {w0 w2 : World} (h : Below w0.heap.size w0 w2) : Aw8 w0 w2.heap.size ((((w2.alloc (.cells #[.int .u8 107] 5 (1, 2))).alloc (.cells #[.int .u8 118] 5 (1, 2))).alloc (.cells #[.int .u8 1, .slice (some ⟨w2.heap.size, 0, none⟩) 1 1, .slice (some ⟨w2.heap.size + 1, 0, none⟩) 1 1] 72)).alloc (.cells #[.int .u64 5, .slice (some ⟨w2.heap.size + 1 + 1, 0, none⟩) 1 1] 35)) := by
  have b1 := Bl.alloc (w2.alloc (.cells #[.int .u8 107] 5 (1, 2))) (.cells #[.int .u8 118] 5 (1, 2))
  have b2 := Bl.alloc ((w2.alloc (.cells #[.int .u8 107] 5 (1, 2))).alloc (.cells #[.int .u8 118] 5 (1, 2))) (.cells #[.int .u8 1, .slice (some ⟨w2.heap.size, 0, none⟩) 1 1, .slice (some ⟨w2.heap.size + 1, 0, none⟩) 1 1] 72)
  have b3 := Bl.alloc (((w2.alloc (.cells #[.int .u8 107] 5 (1, 2))).alloc (.cells #[.int .u8 118] 5 (1, 2))).alloc (.cells #[.int .u8 1, .slice (some ⟨w2.heap.size, 0, none⟩) 1 1, .slice (some ⟨w2.heap.size + 1, 0, none⟩) 1 1] 72)) (.cells #[.int .u64 5, .slice (some ⟨w2.heap.size + 1 + 1, 0, none⟩) 1 1] 35)
  exact ⟨belowA (belowA (belowA (belowA h (.cells #[.int .u8 107] 5 (1, 2))) (.cells #[.int .u8 118] 5 (1, 2))) (.cells #[.int .u8 1, .slice (some ⟨w2.heap.size, 0, none⟩) 1 1, .slice (some ⟨w2.heap.size + 1, 0, none⟩) 1 1] 72)) (.cells #[.int .u64 5, .slice (some ⟨w2.heap.size + 1 + 1, 0, none⟩) 1 1] 35),
    (((RB.litF w2 5 (1, 2) #[.int .u8 107] [107] rfl 1 rfl (by decide) w2.heap.size rfl).new b1).new b2).new b3,
    ((RB.litF (w2.alloc (.cells #[.int .u8 107] 5 (1, 2))) 5 (1, 2) #[.int .u8 118] [118] rfl 1 rfl (by decide) (w2.heap.size + 1) (asz _ _)).new b2).new b3,
    (Row.fresh ((w2.alloc (.cells #[.int .u8 107] 5 (1, 2))).alloc (.cells #[.int .u8 118] 5 (1, 2))) (w2.heap.size + 1 + 1) (asz2 _ _ _).symm 72 _ _ rfl).new b3,
    Row.fresh (((w2.alloc (.cells #[.int .u8 107] 5 (1, 2))).alloc (.cells #[.int .u8 118] 5 (1, 2))).alloc (.cells #[.int .u8 1, .slice (some ⟨w2.heap.size, 0, none⟩) 1 1, .slice (some ⟨w2.heap.size + 1, 0, none⟩) 1 1] 72)) (w2.heap.size + 1 + 1 + 1) (asz3 _ _ _ _).symm 35 _ _ rfl⟩
theorem Aw8.ents {w0 a : World} {k : Nat} (h : Aw8 w0 k a) : Ents a (some ⟨k + 1 + 1, 0, none⟩) [(e8, ⟨some ⟨k, 0, none⟩, 1, some ⟨k + 1, 0, none⟩, 1⟩)] := by
  refine ⟨fun i hi => ?_, fun x hx => ?_⟩
  · have e : i = 0 := by simp at hi; exact hi
    subst e
    exact ⟨_, rfl, h.en.c 0 _ rfl, h.en.c 1 _ rfl, h.en.c 2 _ rfl⟩
  · rw [List.mem_singleton.1 hx]
    exact ⟨by show 1 ≤ 255; decide, h.K, h.V⟩
set_option maxHeartbeats 800000 in
set_option maxRecDepth 100000 in
theorem awake8_calls (w : World) (hL : Laid8 w) : Calls Tryz.prog 12 #[] w fun r w' => r = .returned (.bool true) ∧ Below w.heap.size w w' := by
  have hn1 : ((n7 == n7) : Bool) = true := beq_self_eq_true _
  have HL := Lib.hid hL
  have HN1 := Lib.hid numberF_7
  have HN2 := Lib.hid nameL_7
  clear hL hn1
  go_enter Tryz.func12, Tryz.ntmps12
  go_wp2_with (first
    | (go_at_call 15; go_loud (with_reducible refine (numberN _ n7 rfl 7 0 HN1.out _ HL.out).mono ?_); rintro x1 w1 ⟨rfl, hb1⟩)
    | (go_at_call 13; go_loud (with_reducible refine (name7 _ (HL.out.below hb1)).mono ?_); rintro x2 w2 ⟨rfl, hb2⟩; have kc1 := Lib.run_convert_bytes_const (P := Tryz.prog) w2 36 5 #[.int .u8 107] 1 1 Tryz.underlying36 Tryz.underlying5; have kc2 := Go.Joins.run_convert_bytes_const_at (P := Tryz.prog) (w2.alloc (.cells #[.int .u8 107] 5 (1, 2))) 36 5 #[.int .u8 118] 1 1 (w2.heap.size + 1) (asz _ _).symm Tryz.underlying36 Tryz.underlying5; have AW := Lib.hid (Aw8.start (below_then hb1 hb2)))
    | (go_at_call 17; go_loud (with_reducible refine (head8 _).mono ?_); rintro x3 w3 ⟨A3, c3, rfl, hn3⟩; have P3 := Lib.hid (bgRB hn3.own.rb); have AW3 := AW.out.new hn3.below; have y0 := AW3.bt.c 0 _ rfl; have y1 := AW3.bt.c 1 _ rfl; have AW3 := Lib.hid AW3)
    | (go_at_call 20; go_loud (with_reducible refine (batch8 _ 1 _ _ AW3.out.ents rfl).mono ?_); rintro x4 w4 ⟨A4, c4, rfl, hn4⟩; have P4 := Lib.hid (P3.out.step hn4.below); have Q4 := Lib.hid hn4.own.rb; have AW4 := Lib.hid (AW3.out.new hn4.below))
    | (go_at_call 30; go_loud (with_reducible refine (joinN A3 A4 (headL h8) q8 (headL h8 ++ q8) 48 25 73 c3 c4 _ P4.out.h Q4.out (headL_length _).symm q8_length.symm (by rw [headL_length, q8_length]) rfl (by rw [headL_length, q8_length]; decide)).mono ?_); rintro x5 w5 ⟨A5, c5, rfl, hn5⟩; have Q5 := Lib.hid hn5.own.rb; have AW5 := Lib.hid (AW4.out.new hn5.below))
    | (go_at_call 24; go_loud (with_reducible refine (read8 A5 c5 _ Q5.out).mono ?_); rintro x6 w6 ⟨A6, c6, bs, rfl, hk6⟩; obtain ⟨g6, b6, rfl, -, -, he6, -, m0, m1, hE6⟩ := one8 hk6 rfl; have n6 := Bl.alloc w6 (.cells #[.int .u64 3, .int .u64 2, .int .u64 5, .int .i64 4, .slice (some ⟨g6, 0, none⟩) 1 c6, .int .i64 73] 51); have AW6 := (AW5.out.new hk6.below).new n6; have S7 := Row.fresh w6 w6.heap.size rfl 51 [.int .u64 3, .int .u64 2, .int .u64 5, .int .i64 4, .slice (some ⟨g6, 0, none⟩) 1 c6, .int .i64 73] #[.int .u64 3, .int .u64 2, .int .u64 5, .int .i64 4, .slice (some ⟨g6, 0, none⟩) 1 c6, .int .i64 73] rfl; have s0 := S7.c 0 _ rfl; have s1 := S7.c 1 _ rfl; have s2 := S7.c 2 _ rfl; have s3 := S7.c 3 _ rfl; have s4 := S7.c 4 _ rfl; have s5 := S7.c 5 _ rfl; have HE6 := Lib.hid (hE6.new n6); have HE := Lib.hid he6; have g0 := n6.cell (World.block_lt_of_cell? _ _ m0) |>.trans m0; have g1 := n6.cell (World.block_lt_of_cell? _ _ m1) |>.trans m1; have AW6 := Lib.hid AW6))
  have y0 := AW6.out.bt.c 0 _ rfl
  have y1 := AW6.out.bt.c 1 _ rfl
  have AW7 := Lib.hid (AW6.out.new (Bl.drew _))
  have HE7 := Lib.hid (HE6.out.new (Bl.drew _))
  clear AW3 AW4 AW5 AW P3 P4 Q4 Q5 S7 hE6 he6 m0 m1 hk6 n6 s0 s1 s2 s3 s5 kc1 kc2 hn3 hn4 hn5 HE6 AW6
  generalize (w6.alloc (.cells #[.int .u64 3, .int .u64 2, .int .u64 5, .int .i64 4, .slice (some ⟨g6, 0, none⟩) 1 c6, .int .i64 73] 51)) = w7 at *
  go_region_held3 (fun w' => w'.cell? ⟨w6.heap.size, 4, none⟩ = some (.slice (some ⟨g6, 0, none⟩) 1 c6) ∧ w'.cell? ⟨g6, 0, none⟩ = some (.int .u64 5) ∧ w'.cell? ⟨g6, 1, none⟩ = some (.slice b6.A 1 b6.c) ∧ w'.cell? ⟨w2.heap.size + 1 + 1 + 1, 0, none⟩ = some (.int .u64 5) ∧ w'.cell? ⟨w2.heap.size + 1 + 1 + 1, 1, none⟩ = some (.slice (some ⟨w2.heap.size + 1 + 1, 0, none⟩) 1 1)) (go_keep) (first
    | (go_at_call 31; go_loud (with_reducible refine (sameB8 b6.A _ b6.es _ b6.c 1 _ HE7.out AW7.out.ents HE.out rfl).mono ?_); rintro x8 w8 ⟨rfl, hb8⟩; have z4 := (hb8.cell (World.block_lt_of_cell? _ _ s4)).trans s4; have z0 := (hb8.cell (World.block_lt_of_cell? _ _ g0)).trans g0; have z1 := (hb8.cell (World.block_lt_of_cell? _ _ g1)).trans g1; have v0 := (hb8.cell (World.block_lt_of_cell? _ _ y0)).trans y0; have v1 := (hb8.cell (World.block_lt_of_cell? _ _ y1)).trans y1))
  go_wp2
  go_ret
  exact ⟨rfl, below_then AW7.out.below hb8⟩
end Go.Proofs.YtpmnnnbkbcpgjaaGreatDoor
