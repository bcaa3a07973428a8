import Derived.Test.YtpmnnnbkbcpgjaaGreatDoorQMemBag8
import Derived.Test.YtpmnnnbkbcpgjaaGreatDoorQSegmentReads
/- Layer 8: the lists of a segment's batches: where they lie; the walk of notarylaw08.lists. -/
namespace Go.Proofs.YtpmnnnbkbcpgjaaGreatDoor
open Go.RowKit
attribute [local go_sem ↓] Go.wp_at_zero Go.wp_at_succ

def hdsV (bs : List BvV) : List Hd := bs.flatMap fun b => hdsE b.es
theorem hdsV_append (bs ds : List BvV) : hdsV (bs ++ ds) = hdsV bs ++ hdsV ds := List.flatMap_append
theorem hdsV_take (bs : List BvV) (i : Nat) (b : BvV) (h : bs[i]? = some b) : hdsV (bs.take (i + 1)) = hdsV (bs.take i) ++ hdsE b.es := by
  rw [List.take_add_one, h, hdsV_append]; simp [hdsV]
theorem hdsV_length (bs : List BvV) (hl : ∀ b ∈ bs, b.es.length ≤ 64) : (hdsV bs).length ≤ 128 * bs.length := by
  induction bs with
  | nil => simp [hdsV]
  | cons b bs ih =>
    have h1 := ih fun d hd => hl d (List.mem_cons_of_mem _ hd)
    have h2 := hl b (List.mem_cons_self ..)
    have e : hdsV (b :: bs) = hdsE b.es ++ hdsV bs := List.flatMap_cons
    rw [e, List.length_append, hdsE_length, List.length_cons]
    omega
theorem SepE.aptHi {w : World} {base hi : Nat} {es : List EnX} (h : SepE w base es) (hh : ∀ u ∈ listV es, ∀ k, u.ownBlock = some k → k < hi) (hl : ∀ x ∈ es, x.1.K.length ≤ 64 ∧ x.1.V.length ≤ 256) : Apt w base hi (hdsE es) := by
  have h0 := h.apt (Nat.le_refl _) hl
  exact ⟨h0.own, fun g hg k hk => hh g.val (by rw [← hdsE_val]; exact List.mem_map_of_mem hg) k hk, h0.apart, h0.len⟩
theorem apt_batches {w : World} : ∀ (bs : List BtV) (base hi : Nat), (∀ b ∈ bs, BtAt w b) → (∀ b ∈ bs, b.s = true) → (∀ b ∈ bs, base ≤ b.lo) → (∀ b ∈ bs, b.hi ≤ hi) → (bs.Pairwise fun b d => b.hi ≤ d.lo) → (∀ b ∈ bs, ∀ x ∈ b.es, x.1.K.length ≤ 64 ∧ x.1.V.length ≤ 256) → base ≤ hi → Apt w base hi (hdsV (bs.map BtV.view))
  | [], base, hi, _, _, _, _, _, _, _ => Apt.nil w base hi
  | b :: bs, base, hi, hb, hs, hlo, hhi, ho, hl, hbh => by
    obtain ⟨o1, o2⟩ := List.pairwise_cons.1 ho
    have hm := List.mem_cons_self (a := b) (l := bs)
    obtain ⟨s1, s2⟩ := (hb b hm).sep (hs b hm)
    have h1 : Apt w b.lo b.hi (hdsE b.es) := s1.aptHi s2 (hl b hm)
    have h2 := apt_batches bs (max base b.hi) hi (fun d hd => hb d (List.mem_cons_of_mem _ hd)) (fun d hd => hs d (List.mem_cons_of_mem _ hd)) (fun d hd => Nat.max_le.2 ⟨hlo d (List.mem_cons_of_mem _ hd), o1 d hd⟩) (fun d hd => hhi d (List.mem_cons_of_mem _ hd)) o2 (fun d hd => hl d (List.mem_cons_of_mem _ hd)) (Nat.max_le.2 ⟨hbh, hhi b hm⟩)
    have e : hdsV ((b :: bs).map BtV.view) = hdsE b.es ++ hdsV (bs.map BtV.view) := by simp [hdsV, BtV.view]
    rw [e]
    exact h1.append h2 (.inl (Nat.le_max_right _ _)) (hlo b hm) (Nat.le_max_left _ _) (hhi b hm) (Nat.le_refl _)
theorem BL.apt {w : World} {base base' hi : Nat} {v : Value} {bs : List BtV} (h : BL w base v bs) (hs : ∀ b ∈ bs, b.s = true) (hl : ∀ b ∈ bs, base' ≤ b.lo) (hh : ∀ b ∈ bs, b.hi ≤ hi) (he : ∀ b ∈ bs, ∀ x ∈ b.es, x.1.K.length ≤ 64 ∧ x.1.V.length ≤ 256) (hb : base' ≤ hi) : Apt w base' hi (hdsV (bs.map BtV.view)) :=
  apt_batches bs base' hi h.at_ hs hl hh h.order he hb
set_option maxHeartbeats 800000 in
set_option maxRecDepth 100000 in
theorem lists_calls (N E F X U : Int) (A : Option Addr) (bs : List BvV) (m c : Nat) (w : World) (h : Bats w A bs) (hm : m = bs.length) (hl : ∀ b ∈ bs, b.es.length ≤ 64) (hml : m ≤ 1048576) :
    Calls Tryz.prog 35 #[.agg #[.int .u64 N, .int .u64 E, .int .u64 F, .int .i64 X, .slice A m c, .int .i64 U]] w fun r w' => ∃ A' n' c', r = .returned (.slice A' n' c') ∧ n' = (hdsV bs).length ∧ LL w' w.heap.size (.slice A' n' c') (hdsV bs) ∧ Below w.heap.size w w' := by
  have HB0 := below_alloc1 (Below.refl w.heap.size w) (Nat.le_refl _) (.cells #[.int .u64 N, .int .u64 E, .int .u64 F, .int .i64 X, .slice A m c, .int .i64 U] 51)
  have R0 := Row.fresh w w.heap.size rfl 51 [.int .u64 N, .int .u64 E, .int .u64 F, .int .i64 X, .slice A m c, .int .i64 U] #[.int .u64 N, .int .u64 E, .int .u64 F, .int .i64 X, .slice A m c, .int .i64 U] rfl
  have x4 := R0.c 4 _ rfl
  have HM := Lib.hid hm
  have HL := Lib.hid hl
  have HH := Lib.hid h
  clear R0 hm hl h
  go_enter Tryz.func35, Tryz.ntmps35
  go_wp2
  go_loopw [3, 5, 7, 11] (fun v _ _ iv wr => ∃ j : Nat, j ≤ m ∧ iv = .int .i64 j ∧ LL wr w.heap.size v (hdsV (bs.take j)) ∧ Below w.heap.size w wr) (fun _ _ _ iv _ => m - (intOf iv).toNat)
  case atStart => exact ⟨0, Nat.zero_le _, rfl, by simpa [hdsV] using LL.nil _ _, HB0⟩
  case round =>
    obtain ⟨j, hj, rfl, HLL, HBB⟩ := hrel
    obtain ⟨wo, hwo⟩ : ∃ x, x = wr := ⟨_, rfl⟩
    subst hwo
    by_cases hlt : j < m
    · obtain ⟨a, b, rfl, hb, hbm, hbe, k0, k1⟩ := (HH.out.new HBB).at_ j (by rw [← HM.out]; exact hlt)
      have hb64 := HL.out b hbm
      have hht := hdsV_take bs j b hb
      have hl1 : (hdsV (bs.take j)).length ≤ 128 * j := by
        have := hdsV_length (bs.take j) fun d hd => HL.out d (List.mem_of_mem_take hd)
        have h2 : (bs.take j).length ≤ j := List.length_take_le _ _
        omega
      obtain ⟨bf, bA, bc, bes⟩ := b
      simp only at k0 k1 hb64 hbe hht
      have HTV := Lib.hid hht
      obtain ⟨nb, hnb⟩ : ∃ nb, nb = bes.length := ⟨_, rfl⟩
      rw [← hnb] at k1 hb64
      have HNB := Lib.hid hnb
      have k1 : wo.cell? ⟨(a.add (j * 2)).block, (a.add (j * 2)).off + 1, none⟩ = some (.slice bA nb bc) := by rw [← addr_succ]; exact k1
      have T0 := Duo.fresh wo wo.heap.size rfl (.int .u64 bf) (.slice bA nb bc) 35
      have t1 := T0.c1
      have HL1 := Lib.hid hl1
      have HBE := Lib.hid (HH.out.ok _ hbm)
      have hbA := HBB.size
      have HN1 := Lib.hid (below_alloc1 (Below.refl wo.heap.size wo) (Nat.le_refl _) (.cells #[.int .u64 bf, .slice bA nb bc] 35))
      have HLL := Lib.hid HLL
      have HBB := Lib.hid HBB
      clear hb hbm hbe hl1 hnb T0 hht
      go_wp2
      go_loopw [3, 7, 18] (fun v _ iv wr => ∃ i : Nat, i ≤ nb ∧ iv = .int .i64 i ∧ LL wr w.heap.size v (hdsV (bs.take j) ++ hdsE (bes.take i)) ∧ Below w.heap.size w wr) (fun _ _ iv _ => nb - (intOf iv).toNat)
      case atStart => exact ⟨0, Nat.zero_le _, rfl, by rw [List.take_zero, show hdsE ([] : List EnX) = [] from rfl, List.append_nil]; exact HLL.out.new HN1.out, below_then HBB.out HN1.out⟩
      case round =>
        obtain ⟨i, hi, rfl, HI, HBI⟩ := hrel
        obtain ⟨wi, hwi⟩ : ∃ x, x = wr := ⟨_, rfl⟩
        subst hwi
        by_cases hlt2 : i < nb
        · obtain ⟨a4, o, x, rfl, ho, hmem, hok, q0, q1, q2⟩ := (HBE.out.new HBI).at_ i (by rw [← HNB.out]; exact hlt2)
          have HT := Lib.hid (hdsE_take bes i (o, x) ho)
          have hl2 : (hdsV (bs.take j) ++ hdsE (bes.take i)).length ≤ 128 * j + 2 * i := by rw [List.length_append, hdsE_length, List.length_take]; have := HL1.out; omega
          have HL2 := Lib.hid hl2
          have hbsz := HBI.size
          have HB2 := Lib.hid (belowA (belowA HBI (.cells #[.int .u8 o.k, .slice x.KA o.K.length x.kc, .slice x.VA o.V.length x.vc] 72)) (.cells #[.slice x.KA o.K.length x.kc, .slice x.VA o.V.length x.vc] 36))
          clear ho hl2 hmem
          go_wp2_with (refine wp_appendLL lst rfl (.tmp 22) (.tmp 27) rfl w.heap.size u3 (hdsV (bs.take j) ++ hdsE (bes.take i)) [kH (o, x), vH (o, x)] rfl ((HI.new (below_alloc1 (Below.refl _ _) (Nat.le_refl _) _)).new (below_alloc1 (Below.refl _ _) (Nat.le_refl _) _)) (some ⟨wi.heap.size + 1, 0, none⟩) 2 2 (by simp [Act.eval]) rfl (fun j y hy => ?_) (fun h => absurd h (by simp)) (by have := HL2.out; simp only [List.length_cons, List.length_nil]; omega) (by rw [asz2]; omega) fun A2 n2 c2 w2 hn2 hr2 hgr2 => ?_)
          · match j, hy with
            | 0, hy => obtain rfl := Option.some.inj hy; exact ⟨_, rfl, row_at _ _ (asz _ _) _ _ 0 _ rfl⟩
            | 1, hy => obtain rfl := Option.some.inj hy; exact ⟨_, rfl, row_at _ _ (asz _ _) _ _ 1 _ rfl⟩
            | j + 2, hy => simp at hy
          go_roundw
          case rel => exact ⟨i + 1, by omega, by go_num, by
              rw [HT.out, ← List.append_assoc]
              have e2 : n2 = (hdsV (bs.take j)).length + ((hdsE (bes.take i)).length + 2) := by rw [hn2]; simp
              rw [e2] at hr2
              exact hr2, HB2.out.grown hgr2 HB2.out.size (fun k hk => (HI.lt k hk).1)⟩
          case measure => simp [intOf]; omega
        · obtain rfl : i = nb := by omega
          clear hlt2
          rw [List.take_of_length_le (Nat.le_of_eq HNB.out.symm)] at HI
          have HII := Lib.hid HI
          go_wp2
          go_roundw
          case rel => exact ⟨j + 1, by omega, by go_num, by rw [HTV.out]; exact HII.out, HBI⟩
          case measure => simp [intOf]; omega
    · obtain rfl : j = m := by omega
      clear hlt
      rw [List.take_of_length_le (Nat.le_of_eq HM.out.symm)] at HLL
      obtain ⟨A1, c1, rfl⟩ := HLL.form
      have HLH := Lib.hid HLL
      go_wp2
      go_ret
      exact ⟨A1, _, c1, rfl, rfl, HLH.out, HBB⟩
end Go.Proofs.YtpmnnnbkbcpgjaaGreatDoor
