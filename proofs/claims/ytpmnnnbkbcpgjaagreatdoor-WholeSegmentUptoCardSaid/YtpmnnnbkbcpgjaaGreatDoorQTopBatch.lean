import Derived.Test.YtpmnnnbkbcpgjaaGreatDoorQTopWords8
import Derived.Test.YtpmnnnbkbcpgjaaGreatDoorQTopE2
import Derived.Test.YtpmnnnbkbcpgjaaGreatDoorQSegView
import Derived.Test.YtpmnnnbkbcpgjaaGreatDoorQRowTools
import Derived.Test.YtpmnnnbkbcpgjaaGreatDoorQBi
/- The walk of notarytop.batch; what a batch that stands somewhere uses; the walk of notarytop.sameBatch. -/
namespace Go.Proofs.YtpmnnnbkbcpgjaaGreatDoor
open Go.RowKit
attribute [local go_sem ↓] Go.wp_at_zero Go.wp_at_succ

/-- the blocks in which a batch's list of entries and their lists stand -/
def uses (b : BvV) (k : Nat) : Prop := (∃ a, b.A = some a ∧ 0 < b.es.length ∧ a.block = k) ∨ ∃ x ∈ b.es, (∃ a, x.2.KA = some a ∧ 0 < x.1.K.length ∧ a.block = k) ∨ (∃ a, x.2.VA = some a ∧ 0 < x.1.V.length ∧ a.block = k)
theorem Ents.keepU {w w' : World} {b : BvV} (h : Ents w b.A b.es) (hk : ∀ k, uses b k → w'.heap[k]? = w.heap[k]?) : Ents w' b.A b.es := by
  refine ⟨fun i hi => ?_, fun x hx => ?_⟩
  · obtain ⟨a, ha, h0, h1, h2⟩ := h.out i hi
    have e := hk a.block (.inl ⟨a, ha, Nat.lt_of_le_of_lt (Nat.zero_le _) hi, rfl⟩)
    have hc : ∀ j, w'.cell? (a.add j) = w.cell? (a.add j) := fun j => World.cell?_of_block (by rw [block_add]; exact e)
    exact ⟨a, ha, (hc _).trans h0, (hc _).trans h1, (hc _).trans h2⟩
  · have ho := h.ok x hx
    exact ⟨ho.k, ho.K.keep fun a e hp => hk _ (.inr ⟨x, hx, .inl ⟨a, e, hp, rfl⟩⟩), ho.V.keep fun a e hp => hk _ (.inr ⟨x, hx, .inr ⟨a, e, hp, rfl⟩⟩)⟩
theorem uses_lt {w : World} {b : BvV} (h : Ents w b.A b.es) (k : Nat) (hk : uses b k) : k < w.heap.size := by
  rcases hk with ⟨a, ha, hp, rfl⟩ | ⟨x, hx, ⟨a, ha, hp, rfl⟩ | ⟨a, ha, hp, rfl⟩⟩
  · obtain ⟨a', ha', h0, _⟩ := h.out 0 hp
    rw [ha] at ha'
    obtain rfl := Option.some.inj ha'
    have := World.block_lt_of_cell? w _ h0
    rwa [block_add] at this
  · exact (h.ok x hx).K.old.out a ha hp
  · exact (h.ok x hx).V.old.out a ha hp
def mkE (f i : Nat) : En := ⟨1, [UInt8.ofNat i], [UInt8.ofNat f, UInt8.ofNat i]⟩
def partN (f : Nat) (e : En) (n : Nat) : List En := fitF e :: (List.range n).map (mkE f)
theorem partN_succ (f : Nat) (e : En) (n : Nat) : partN f e (n + 1) = partN f e n ++ [mkE f n] := by
  unfold partN
  rw [List.range_succ, List.map_append]
  rfl
theorem partN_length (f : Nat) (e : En) (n : Nat) : (partN f e n).length = n + 1 := by simp [partN]
theorem mkE_chk (f i : Nat) : chkF (mkE f i) = 0 := by simp [chkF, mkE]
theorem partN_chk (f : Nat) (e : En) (n : Nat) : ∀ x ∈ partN f e n, chkF x = 0 := fun x hx => by
  rcases List.mem_cons.1 hx with rfl | hx
  · exact fitF_chk e
  · obtain ⟨i, _, rfl⟩ := List.mem_map.1 hx
    exact mkE_chk f i
/-- what the loop of batch keeps -/
structure TB (W0 : Nat) (w wr : World) (f : Nat) (e : En) (P : List Value) (b5 i : Nat) (A : Option Addr) (c : Nat) (ds : List EnX) : Prop where
  part : Row wr w.heap.size 83 P
  res : Duo wr (w.heap.size + 1) (.int .u64 0) (.slice none 0 0)
  box : Duo wr b5 (.int .u64 f) (.slice A (i + 1) c)
  el : EL wr 0 (.slice A (i + 1) c) (i + 1) ds
  eq : ensOf ds = partN f e i
  own : ∀ k, (Value.slice A (i + 1) c).ownBlock = some k → w.heap.size + 1 < k ∧ k ≠ b5
  far : ∀ x ∈ ds, (∀ a, x.2.KA = some a → 0 < x.1.K.length → (a.block < W0 ∧ a.block < w.heap.size) ∨ (w.heap.size + 1 < a.block ∧ a.block ≠ b5)) ∧ (∀ a, x.2.VA = some a → 0 < x.1.V.length → (a.block < W0 ∧ a.block < w.heap.size) ∨ (w.heap.size + 1 < a.block ∧ a.block ≠ b5))
  below : Below w.heap.size w wr
theorem EL.kept0 {w w' : World} {n : Nat} {v : Value} {es : List EnX} {g : Nat} (h : EL w 0 v n es) (hg : w.grownBy w' (some g)) (hv : v.ownBlock ≠ some g) (hl : ∀ x ∈ es, (∀ a, x.2.KA = some a → 0 < x.1.K.length → a.block ≠ g) ∧ (∀ a, x.2.VA = some a → 0 < x.1.V.length → a.block ≠ g)) : EL w' 0 v n es :=
  ⟨h.row.kept hg (.inr hv), h.len, fun x hx => ⟨(h.ok x hx).k, (h.ok x hx).K.keep fun a e hp => hg.block _ ((h.ok x hx).K.old.out a e hp) (fun e2 => (hl x hx).1 a e hp (Option.some.inj e2)), (h.ok x hx).V.keep fun a e hp => hg.block _ ((h.ok x hx).V.old.out a e hp) (fun e2 => (hl x hx).2 a e hp (Option.some.inj e2))⟩, h.far⟩
theorem TB.uses {W0 : Nat} {w wr : World} {f : Nat} {e : En} {P : List Value} {b5 i : Nat} {A : Option Addr} {c : Nat} {ds : List EnX} (h : TB W0 w wr f e P b5 i A c ds) : ∀ k, uses ⟨f, A, c, ds⟩ k → k < W0 ∨ w.heap.size + 1 < k := fun k hk => by
  rcases hk with ⟨a, ha, hp, rfl⟩ | ⟨x, hx, ⟨a, ha, hp, rfl⟩ | ⟨a, ha, hp, rfl⟩⟩
  · right
    have ha : A = some a := ha
    obtain ⟨y, hy⟩ : ∃ y, (ds.flatMap cellsE)[0]? = some y := by
      cases ds with
      | nil => exact absurd hp (by simp)
      | cons d ds => exact ⟨.int .u8 d.1.k, by simp [cellsE]⟩
    obtain ⟨g, c', hv, _, _⟩ := own_at h.el.row 0 y hy
    injection hv with e1
    rw [ha] at e1
    obtain rfl := Option.some.inj e1
    exact (h.own g (by rw [ha]; rfl)).1
  · rcases (h.far x hx).1 a ha hp with h1 | h1
    · exact .inl h1.1
    · exact .inr h1.1
  · rcases (h.far x hx).2 a ha hp with h1 | h1
    · exact .inl h1.1
    · exact .inr h1.1
set_option maxHeartbeats 1000000 in
set_option maxRecDepth 100000 in
theorem topbatch_calls (W0 f : Nat) (hf : f ≤ 18446744073709551615) (C : Nat) (hC : C ≤ 255) (e : En) (a : EnA) (nK nV : Nat) (hnK : nK = e.K.length) (hnV : nV = e.V.length) (w : World) (hok : EnOk w e a) (hK : ∀ ad, a.KA = some ad → 0 < e.K.length → ad.block < W0) (hV : ∀ ad, a.VA = some ad → 0 < e.V.length → ad.block < W0) (m : Nat) (hm : m = C % 64) (m1 : Nat) (hm1 : m1 = m + 1) :
    Calls Tryz.prog 38 #[.int .u64 f, .agg #[.int .u8 C, .int .u8 e.k, .slice a.KA nK a.kc, .slice a.VA nV a.vc]] w fun r w' => ∃ A' c' ds, r = .returned (.agg #[.int .u64 f, .slice A' m1 c']) ∧ Ents w' A' ds ∧ m1 = ds.length ∧ ensOf ds = partN f e m ∧ (∀ k, uses ⟨f, A', c', ds⟩ k → k < W0 ∨ w.heap.size + 1 < k) ∧ Below w.heap.size w w' := by
  subst hm1
  have nw : ∀ (w : World) (o : Obj), Below w.heap.size w (w.alloc o) := fun w o => below_alloc1 (Below.refl _ _) (Nat.le_refl _) o
  have R0 := (Row.fresh w w.heap.size rfl 83 [.int .u8 C, .int .u8 e.k, .slice a.KA nK a.kc, .slice a.VA nV a.vc] #[.int .u8 C, .int .u8 e.k, .slice a.KA nK a.kc, .slice a.VA nV a.vc] rfl).new (nw _ (.cells #[.int .u64 0, .slice none 0 0] 35))
  have S0 := Lib.hid (Duo.fresh (w.alloc (.cells #[.int .u8 C, .int .u8 e.k, .slice a.KA nK a.kc, .slice a.VA nV a.vc] 83)) (w.heap.size + 1) (asz _ _) (.int .u64 0) (.slice none 0 0) 35)
  have B0 := Lib.hid (belowA (nw w (.cells #[.int .u8 C, .int .u8 e.k, .slice a.KA nK a.kc, .slice a.VA nV a.vc] 83)) (.cells #[.int .u64 0, .slice none 0 0] 35))
  have x0 := R0.c 0 _ rfl
  have x1 := R0.c 1 _ rfl
  have x2 := R0.c 2 _ rfl
  have x3 := R0.c 3 _ rfl
  have R0 := Lib.hid R0
  have HOK := Lib.hid hok
  have HK := Lib.hid hK
  have HV := Lib.hid hV
  have HNK := Lib.hid hnK
  have HNV := Lib.hid hnV
  have HM := Lib.hid hm
  have hu8 : IntKind.u8.wrap (f : Int) = ((f % 256 : Nat) : Int) := by rw [IntKind.wrap_u8]; omega
  clear nw hok hK hV hnK hnV hm
  go_enter Tryz.func38, Tryz.ntmps38
  go_wp2_with (go_at_call 67; go_loud (with_reducible refine (topfits_calls e a _ _ HNK.out HNV.out _ (HOK.out.new B0.out)).mono ?_); rintro r1 w1 ⟨rfl, hb1⟩; have HB1 := Lib.hid hb1; clear x0 x1 x2 x3 hb1)
  have L0 : Hid (TB W0 w ((w1.alloc (.cells #[.int .u8 (fitF e).k, .slice (fitA e a).KA (fitF e).K.length (fitA e a).kc, .slice (fitA e a).VA (fitF e).V.length (fitA e a).vc] 72)).alloc (.cells #[.int .u64 f, .slice (some ⟨w1.heap.size, 0, none⟩) 1 1] 35)) f e [.int .u8 C, .int .u8 e.k, .slice a.KA nK a.kc, .slice a.VA nV a.vc] (w1.heap.size + 1) 0 (some ⟨w1.heap.size, 0, none⟩) 1 [(fitF e, fitA e a)]) := Lib.hid (by
    have hz0 : w.heap.size + 1 + 1 ≤ w1.heap.size := by have := HB1.out.size; rwa [asz2] at this
    have n1 := Bl.alloc w1 (.cells #[.int .u8 (fitF e).k, .slice (fitA e a).KA (fitF e).K.length (fitA e a).kc, .slice (fitA e a).VA (fitF e).V.length (fitA e a).vc] 72)
    have n2 := Bl.alloc (w1.alloc (.cells #[.int .u8 (fitF e).k, .slice (fitA e a).KA (fitF e).K.length (fitA e a).kc, .slice (fitA e a).VA (fitF e).V.length (fitA e a).vc] 72)) (.cells #[.int .u64 f, .slice (some ⟨w1.heap.size, 0, none⟩) 1 1] 35)
    have hok1 := fit_ok w e a HOK.out
    have hfar : ((∀ ad, (fitA e a).KA = some ad → 0 < (fitF e).K.length → ad.block < W0 ∧ ad.block < w.heap.size) ∧ (∀ ad, (fitA e a).VA = some ad → 0 < (fitF e).V.length → ad.block < W0 ∧ ad.block < w.heap.size)) := by
      unfold fitA fitF
      split
      · refine ⟨fun ad h1 h2 => ?_, fun ad h1 h2 => absurd h1 (by simp)⟩
        have h3 : 0 < e.K.length := by simp only [List.length_take] at h2; omega
        exact ⟨HK.out ad h1 h3, HOK.out.K.old.out ad h1 h3⟩
      · refine ⟨fun ad h1 h2 => ?_, fun ad h1 h2 => ?_⟩
        · have h3 : 0 < e.K.length := by simp only [List.length_take] at h2; omega
          exact ⟨HK.out ad h1 h3, HOK.out.K.old.out ad h1 h3⟩
        · have h3 : 0 < e.V.length := by simp only [List.length_take] at h2; omega
          exact ⟨HV.out ad h1 h3, HOK.out.V.old.out ad h1 h3⟩
    have hBB := below_then (below_then (below_then B0.out HB1.out) n1) n2
    refine ⟨((R0.out.new HB1.out).new n1).new n2, ((S0.out.new HB1.out).new n1).new n2, Duo.fresh (w1.alloc (.cells #[.int .u8 (fitF e).k, .slice (fitA e a).KA (fitF e).K.length (fitA e a).kc, .slice (fitA e a).VA (fitF e).V.length (fitA e a).vc] 72)) (w1.heap.size + 1) (asz _ _) _ _ _, ?_, rfl, fun k hk => ?_, fun x hx => ?_, hBB⟩
    · have hrow := (World.ownsRow_lit (base := 0) (e := 72) (size := 3) w1 #[.int .u8 (fitF e).k, .slice (fitA e a).KA (fitF e).K.length (fitA e a).kc, .slice (fitA e a).VA (fitF e).V.length (fitA e a).vc] 1 (Nat.zero_le _) (by decide) rfl)
      refine (EL.mk hrow rfl (fun x hx => ?_) (fun x hx => ?_) : EL (w1.alloc (.cells #[.int .u8 (fitF e).k, .slice (fitA e a).KA (fitF e).K.length (fitA e a).kc, .slice (fitA e a).VA (fitF e).V.length (fitA e a).vc] 72)) 0 (.slice (some ⟨w1.heap.size, 0, none⟩) 1 1) 1 [(fitF e, fitA e a)]).new n2
      · obtain rfl := List.mem_singleton.1 hx
        exact hok1.new (below_then (below_then B0.out HB1.out) n1)
      · obtain rfl := List.mem_singleton.1 hx
        refine ⟨fun ad h1 h2 => ⟨Nat.zero_le _, fun e9 => ?_⟩, fun ad h1 h2 => ⟨Nat.zero_le _, fun e9 => ?_⟩⟩
        · have := (hfar.1 ad h1 h2).2
          have e8 : w1.heap.size = ad.block := Option.some.inj e9
          omega
        · have := (hfar.2 ad h1 h2).2
          have e8 : w1.heap.size = ad.block := Option.some.inj e9
          omega
    · have e8 : w1.heap.size = k := Option.some.inj hk
      omega
    · obtain rfl := List.mem_singleton.1 hx
      exact ⟨fun ad h1 h2 => .inl (hfar.1 ad h1 h2), fun ad h1 h2 => .inl (hfar.2 ad h1 h2)⟩)
  obtain ⟨b5, hb5⟩ : ∃ b, b = w1.heap.size + 1 := ⟨_, rfl⟩
  have hz5 : w.heap.size + 1 < b5 := by have := HB1.out.size; rw [asz2] at this; omega
  rw [← hb5] at L0 ⊢
  clear hb5
  go_loopw [6] (fun iv wr => ∃ (i : Nat) (A2 : Option Addr) (c2 : Nat) (ds : List EnX), i ≤ m ∧ iv = .int .i64 i ∧ Hid (TB W0 w wr f e [.int .u8 C, .int .u8 e.k, .slice a.KA nK a.kc, .slice a.VA nV a.vc] b5 i A2 c2 ds)) (fun iv _ => m - (intOf iv).toNat)
  case atStart => exact ⟨0, _, _, _, Nat.zero_le _, rfl, L0⟩
  case round =>
    obtain ⟨i, A2, c2, ds, hi, rfl, HTB⟩ := hrel
    have x0 := HTB.out.part.c 0 _ rfl
    have y0 := HTB.out.box.c0
    have y1 := HTB.out.box.c1
    have hm64 : m < 64 := by have := HM.out; omega
    have hcm : (C : Int) % 64 = (m : Int) := by have := HM.out; omega
    by_cases hlt : i < m
    · have hlt' : (i : Int) < (m : Int) := by omega
      have hi8 : IntKind.u8.wrap (i : Int) = (i : Int) := by rw [IntKind.wrap_u8]; omega
      have n3 : Below wr.heap.size wr (((wr.alloc (.cells #[.int .u8 i] 5)).alloc (.cells #[.int .u8 (f % 256 : Nat), .int .u8 i] 5)).alloc (.cells #[.int .u8 1, .slice (some ⟨wr.heap.size, 0, none⟩) 1 1, .slice (some ⟨wr.heap.size + 1, 0, none⟩) 2 2] 72)) := below_then (below_then (Bl.alloc wr (.cells #[.int .u8 i] 5)) (Bl.alloc _ (.cells #[.int .u8 (f % 256 : Nat), .int .u8 i] 5))) (Bl.alloc _ (.cells #[.int .u8 1, .slice (some ⟨wr.heap.size, 0, none⟩) 1 1, .slice (some ⟨wr.heap.size + 1, 0, none⟩) 2 2] 72))
      have he1 : ((f % 256 : Nat) : Int) = uB (UInt8.ofNat f) := by rw [uB_ofNat]; omega
      have he2 : (i : Int) = uB (UInt8.ofNat i) := by rw [uB_ofNat]; omega
      have hx : EnOk (((wr.alloc (.cells #[.int .u8 i] 5)).alloc (.cells #[.int .u8 (f % 256 : Nat), .int .u8 i] 5)).alloc (.cells #[.int .u8 1, .slice (some ⟨wr.heap.size, 0, none⟩) 1 1, .slice (some ⟨wr.heap.size + 1, 0, none⟩) 2 2] 72)) (mkE f i) ⟨some ⟨wr.heap.size, 0, none⟩, 1, some ⟨wr.heap.size + 1, 0, none⟩, 2⟩ := by
        refine ⟨by show 1 ≤ 255; omega, ?_, ?_⟩
        · exact ((RB.oneAt wr 5 (UInt8.ofNat i) i (by rw [uB_ofNat]; omega) wr.heap.size rfl).alloc (.cells #[.int .u8 (f % 256 : Nat), .int .u8 i] 5)).alloc (.cells #[.int .u8 1, .slice (some ⟨wr.heap.size, 0, none⟩) 1 1, .slice (some ⟨wr.heap.size + 1, 0, none⟩) 2 2] 72)
        · exact (RB.litF (wr.alloc (.cells #[.int .u8 i] 5)) 5 (0, 0) #[.int .u8 (f % 256 : Nat), .int .u8 i] [UInt8.ofNat f, UInt8.ofNat i] (by rw [he1, he2]; rfl) 2 rfl (by show 2 ≤ 1000; omega) (wr.heap.size + 1) (asz _ _)).alloc (.cells #[.int .u8 1, .slice (some ⟨wr.heap.size, 0, none⟩) 1 1, .slice (some ⟨wr.heap.size + 1, 0, none⟩) 2 2] 72)
      have hltb := HTB.out.box.lt
      have HN3 := Lib.hid n3
      have HX := Lib.hid hx
      have HEL := Lib.hid (HTB.out.el.new n3)
      have HBX := Lib.hid (HTB.out.box.new n3)
      have HFAR : Hid (FarE 0 (.slice A2 (i + 1) c2) (mkE f i, ⟨some ⟨wr.heap.size, 0, none⟩, 1, some ⟨wr.heap.size + 1, 0, none⟩, 2⟩)) := Lib.hid ⟨fun ad e9 _ => ⟨Nat.zero_le _, fun e8 => by
          have h1 := (HTB.out.el.lt _ e8).2
          obtain rfl := Option.some.inj e9
          exact Nat.lt_irrefl _ h1⟩, fun ad e9 _ => ⟨Nat.zero_le _, fun e8 => by
          have h1 := (HTB.out.el.lt _ e8).2
          obtain rfl := Option.some.inj e9
          exact absurd h1 (by show ¬ wr.heap.size + 1 < wr.heap.size; omega)⟩⟩
      have HT3 := Lib.hid (tri_atK ((wr.alloc (.cells #[.int .u8 i] 5)).alloc (.cells #[.int .u8 (f % 256 : Nat), .int .u8 i] 5)) (wr.heap.size + 2) (asz2 _ _ _) (.int .u8 1) (.slice (some ⟨wr.heap.size, 0, none⟩) 1 1) (.slice (some ⟨wr.heap.size + 1, 0, none⟩) 2 2) 72)
      have HZ3 := Lib.hid (show (((wr.alloc (.cells #[.int .u8 i] 5)).alloc (.cells #[.int .u8 (f % 256 : Nat), .int .u8 i] 5)).alloc (.cells #[.int .u8 1, .slice (some ⟨wr.heap.size, 0, none⟩) 1 1, .slice (some ⟨wr.heap.size + 1, 0, none⟩) 2 2] 72)).heap.size = wr.heap.size + 3 from asz3 _ _ _ _)
      clear n3 hx he1 he2
      go_wp2_with (refine wp_appendE2 ent rfl (.tmp 22) (.tmp 32) rfl 0 (.slice A2 (i + 1) c2) (i + 1) ds rfl HEL.out (mkE f i, ⟨some ⟨wr.heap.size, 0, none⟩, 1, some ⟨wr.heap.size + 1, 0, none⟩, 2⟩) ⟨wr.heap.size + 2, 0, none⟩ rfl HT3.out.1 HT3.out.2.1 HT3.out.2.2 HX.out HFAR.out (by omega) (Nat.zero_le _) fun A8 c8 w8 hl8 hg8 ho8 => ?_; have T8 := HBX.out.grownV hg8 (fun k hk => Ne.symm (HTB.out.own k hk).2); have y2 := T8.c1; have f2 := T8.fz 1; have HT8 := Lib.hid T8; have HL8 := Lib.hid hl8; have HG8 := Lib.hid hg8; have HO8 := Lib.hid ho8; clear T8 hl8 hg8 ho8 y0 y1)
      go_roundw
      case rel =>
        have hkeep : ∀ k, k < wr.heap.size → (Value.slice A2 (i + 1) c2).ownBlock ≠ some k → k ≠ b5 → (w8.setCell ⟨b5, 1, none⟩ (.slice A8 (i + 1 + 1) c8)).heap[k]? = wr.heap[k]? := fun k h1 h2 h3 =>
          ((setCell_grown w8 b5 1 _).block k (Nat.lt_of_lt_of_le h1 (Nat.le_trans HN3.out.size HG8.out.size)) (fun e9 => h3 (Option.some.inj e9))).trans ((HG8.out.block k (Nat.lt_of_lt_of_le h1 HN3.out.size) (fun e9 => h2 e9.symm)).trans (HN3.out.block k h1))
        have hz := HZ3.out
        have hown : ∀ k, (Value.slice A8 (i + 1 + 1) c8).ownBlock = some k → w.heap.size + 1 < k ∧ k ≠ b5 := fun k hk => by
          rcases HO8.out with h9 | h9
          · rw [h9] at hk; exact HTB.out.own k hk
          · rw [h9] at hk; have e7 : wr.heap.size + 3 = k := HZ3.out.symm.trans (Option.some.inj hk); omega
        have hfar : ∀ x ∈ ds ++ [(mkE f i, (⟨some ⟨wr.heap.size, 0, none⟩, 1, some ⟨wr.heap.size + 1, 0, none⟩, 2⟩ : EnA))], (∀ a, x.2.KA = some a → 0 < x.1.K.length → (a.block < W0 ∧ a.block < w.heap.size) ∨ (w.heap.size + 1 < a.block ∧ a.block ≠ b5)) ∧ (∀ a, x.2.VA = some a → 0 < x.1.V.length → (a.block < W0 ∧ a.block < w.heap.size) ∨ (w.heap.size + 1 < a.block ∧ a.block ≠ b5)) := fun x hx => by
          rcases List.mem_append.1 hx with hx | hx
          · exact HTB.out.far x hx
          · obtain rfl := List.mem_singleton.1 hx
            refine ⟨fun ad e9 _ => .inr ?_, fun ad e9 _ => .inr ?_⟩
            · obtain rfl := Option.some.inj e9
              show w.heap.size + 1 < wr.heap.size ∧ wr.heap.size ≠ b5
              omega
            · obtain rfl := Option.some.inj e9
              show w.heap.size + 1 < wr.heap.size + 1 ∧ wr.heap.size + 1 ≠ b5
              omega
        have h5 : w.heap.size ≤ b5 := by omega
        have hpl := HTB.out.part.lt
        have hrl := HTB.out.res.lt
        refine ⟨i + 1, A8, c8, ds ++ [(mkE f i, ⟨some ⟨wr.heap.size, 0, none⟩, 1, some ⟨wr.heap.size + 1, 0, none⟩, 2⟩)], by omega, by go_num, Lib.hid ⟨⟨(hkeep _ hpl (fun e9 => by have := (HTB.out.own _ e9).1; omega) (by omega)).trans HTB.out.part.out⟩, HTB.out.res.keep (hkeep _ hrl (fun e9 => by have := (HTB.out.own _ e9).1; omega) (by omega)), HT8.out.set1 _, ?_, ?_, hown, hfar, ?_⟩⟩
        · refine HL8.out.kept0 (setCell_grown w8 b5 1 _) (fun e9 => (hown _ e9).2 rfl) (fun x hx => ⟨fun a h1 h2 e9 => ?_, fun a h1 h2 e9 => ?_⟩)
          · rcases (hfar x hx).1 a h1 h2 with h3 | h3 <;> omega
          · rcases (hfar x hx).2 a h1 h2 with h3 | h3 <;> omega
        · rw [partN_succ, ← HTB.out.eq]; simp [ensOf]
        · exact ((below_then HTB.out.below HN3.out).grown HG8.out (below_then HTB.out.below HN3.out).size (fun k hk => by have := (HTB.out.own k hk).1; omega)).setCell h5 _
      case measure => simp [intOf]; omega
    · obtain rfl : i = m := by omega
      have z0 := HTB.out.res.c0
      have z1 := HTB.out.res.c1
      have g0 := HTB.out.res.fz 0
      have g1 := HTB.out.res.fz 1
      clear hlt
      go_wp2
      have hel : EL ((wr.setCell ⟨w.heap.size + 1, 0, none⟩ (.int .u64 f)).setCell ⟨w.heap.size + 1, 1, none⟩ (.slice A2 (i + 1) c2)) 0 (.slice A2 (i + 1) c2) (i + 1) ds := by
        have hl : ∀ x ∈ ds, (∀ a, x.2.KA = some a → 0 < x.1.K.length → a.block ≠ w.heap.size + 1) ∧ (∀ a, x.2.VA = some a → 0 < x.1.V.length → a.block ≠ w.heap.size + 1) := fun x hx => ⟨fun a h1 h2 => by rcases (HTB.out.far x hx).1 a h1 h2 with h3 | h3 <;> omega, fun a h1 h2 => by rcases (HTB.out.far x hx).2 a h1 h2 with h3 | h3 <;> omega⟩
        have ho : (Value.slice A2 (i + 1) c2).ownBlock ≠ some (w.heap.size + 1) := fun e9 => by have := (HTB.out.own _ e9).1; omega
        exact (HTB.out.el.kept0 (setCell_grown _ _ _ _) ho hl).kept0 (setCell_grown _ _ _ _) ho hl
      exact bodyPost_ret (results_bat rfl _ _ (w.heap.size + 1) _ _ rfl ((HTB.out.res.set0 (.int .u64 f)).set1 (.slice A2 (i + 1) c2))) rfl ⟨A2, c2, ds, rfl, hel.reads, hel.len, HTB.out.eq, HTB.out.uses, (HTB.out.below.setCell (by show w.heap.size ≤ w.heap.size + 1; omega) _).setCell (by show w.heap.size ≤ w.heap.size + 1; omega) _⟩
end Go.Proofs.YtpmnnnbkbcpgjaaGreatDoor
