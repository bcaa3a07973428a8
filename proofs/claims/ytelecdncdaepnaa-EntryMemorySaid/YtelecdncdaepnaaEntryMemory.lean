/- The walk of notarylaw05.EntryMemory. -/
import Derived.Test.YtelecdncdaepnaaBatchWalk
import Derived.Test.YtelecdncdaepnaaListRows
import Derived.Test.YtelecdncdaepnaaEntryMath2
import Derived.Test.YtelecdncdaepnaaSpareWalk
import Derived.Test.YtelecdncdaepnaaFoot
import Derived.Test.YtelecdncdaepnaaEntryDecodes
import Derived.Test.YtelecdncdaepnaaTwinBatch
import Derived.Deep.CutRange
namespace Go.Proofs.Ytelecdncdaepnaa
open Go.RowKit

theorem decB_no (P : List UInt8) (h : (decB P).e ≠ 0) : (decB P).l = [] := by
  unfold decB at *
  split at h
  · rename_i h1; rw [if_pos h1]; rfl
  · rename_i h1
    rw [if_neg h1]
    split at h
    · rename_i h2; rw [if_pos h2]; rfl
    · rename_i h2
      rw [if_neg h2]
      split at h
      · rename_i h3; rw [if_pos h3]; rfl
      · rename_i h3
        rw [if_neg h3]
        split at h
        · rename_i h4; rw [if_pos h4]; rfl
        · rename_i h4
          rw [if_neg h4]
          unfold batF at *
          split at h
          · rename_i h5; rw [if_pos h5]; rfl
          · rename_i h5
            rw [if_neg h5]
            split at h
            · rename_i h6; rw [if_pos h6]; rfl
            · exact absurd rfl h
theorem decB_small (P : List UInt8) : ∀ x ∈ (decB P).l, x.K.length ≤ 64 ∧ x.V.length ≤ 256 := by
  by_cases h : (decB P).e = 0
  · have h2 : decB P = ⟨0, (decB P).f, (decB P).l⟩ := by
      generalize decB P = t at *
      cases t; simp only at h; subst h; rfl
    exact fun x hx => (fun h => ⟨h.1, h.2.1⟩) (chk_small _ ((encBF_ok _ _ _ (decB_back P _ _ h2)).2.2.2.2 x hx))
  · rw [decB_no P h]
    exact fun x hx => absurd hx (by simp)
theorem decF_small (P : List UInt8) : (decF P).2.K.length ≤ 64 ∧ (decF P).2.V.length ≤ 256 := by
  by_cases h : (decF P).1 = 0
  · have h2 : decF P = (0, (decF P).2) := by rw [← h]
    exact (fun h => ⟨h.1, h.2.1⟩) (chk_small _ (encE_ok _ _ (decF_back P _ h2)).2)
  · unfold decF at *
    split at h
    · rename_i h1; rw [if_pos h1]; exact ⟨Nat.zero_le _, Nat.zero_le _⟩
    · rename_i h1
      rw [if_neg h1]
      split at h
      · rename_i h2; rw [if_pos h2]; exact ⟨Nat.zero_le _, Nat.zero_le _⟩
      · exact absurd rfl h
theorem pair_get {α β : Type} (f g : α → β) (l : List α) (i : Nat) (x : α) (h : l[i]? = some x) : (l.flatMap fun x => [f x, g x])[2 * i]? = some (f x) ∧ (l.flatMap fun x => [f x, g x])[2 * i + 1]? = some (g x) := by
  induction l generalizing i with
  | nil => simp at h
  | cons y ys ih =>
    rw [List.flatMap_cons]
    cases i with
    | zero => simp at h; subst h; simp
    | succ i =>
      have := ih i (by simpa using h)
      rw [show 2 * (i + 1) = 2 * i + 2 by omega, show 2 * i + 2 + 1 = (2 * i + 1) + 2 by omega]
      rw [List.getElem?_append_right (by simp), List.getElem?_append_right (by simp)]
      simpa using this
theorem pair_length {α β : Type} (f g : α → β) (l : List α) : (l.flatMap fun x => [f x, g x]).length = 2 * l.length := by
  induction l with
  | nil => rfl
  | cons y ys ih => rw [List.flatMap_cons, List.length_append, ih]; simp; omega
def kH (x : EnX) : Hd := ⟨x.2.KA, x.1.K.length, x.2.kc⟩
def vH (x : EnX) : Hd := ⟨x.2.VA, x.1.V.length, x.2.vc⟩
def hdsE (es : List EnX) : List Hd := es.flatMap fun x => [kH x, vH x]
theorem hdsE_length (es : List EnX) : (hdsE es).length = 2 * es.length := pair_length _ _ _
theorem hdsE_val (es : List EnX) : (hdsE es).map Hd.val = listV es := by
  induction es with
  | nil => rfl
  | cons x xs ih => simp only [hdsE, listV, List.flatMap_cons, List.map_append] at *; rw [ih]; rfl
theorem hdsE_append (es ds : List EnX) : hdsE (es ++ ds) = hdsE es ++ hdsE ds := List.flatMap_append
theorem hdsE_take (es : List EnX) (i : Nat) (x : EnX) (h : es[i]? = some x) : hdsE (es.take (i + 1)) = hdsE (es.take i) ++ [kH x, vH x] := by
  rw [List.take_add_one, h, hdsE_append]; rfl
theorem SepE.apt {w : World} {base hi : Nat} {es : List EnX} (h : SepE w base es) (hh : w.heap.size ≤ hi) (hl : ∀ x ∈ es, x.1.K.length ≤ 64 ∧ x.1.V.length ≤ 256) : Apt w base hi (hdsE es) := by
  have hm : ∀ g ∈ hdsE es, ∃ x ∈ es, g = kH x ∨ g = vH x := fun g hg => by
    obtain ⟨x, hx, hu⟩ := List.mem_flatMap.1 hg
    exact ⟨x, hx, by simpa using hu⟩
  refine ⟨fun g hg => ?_, fun g hg k hk => ?_, ?_, fun g hg => ?_⟩
  · obtain ⟨x, hx, rfl | rfl⟩ := hm g hg
    · exact ⟨_, h.K x hx⟩
    · exact ⟨_, h.V x hx⟩
  · exact Nat.lt_of_lt_of_le (h.lt _ (by rw [← hdsE_val]; exact List.mem_map_of_mem hg) k hk).2 hh
  · have := h.apart
    rw [← hdsE_val] at this
    exact List.pairwise_map.1 this
  · obtain ⟨x, hx, rfl | rfl⟩ := hm g hg
    · have := (hl x hx).1; show x.1.K.length + 90 ≤ _; omega
    · have := (hl x hx).2; show x.1.V.length + 90 ≤ _; omega
theorem row_at (w : World) (k : Nat) (hk : w.heap.size = k) (C : Array Value) (t : TypeId) (i : Nat) (v : Value) (h : C[i]? = some v) : (w.alloc (.cells C t)).cell? ((⟨k, 0, none⟩ : Addr).add i) = some v := by
  subst hk
  have e := heap_alloc_new w (.cells C t)
  have ea : (⟨w.heap.size, 0, none⟩ : Addr).add i = ⟨w.heap.size, i, none⟩ := by unfold Addr.add; split <;> simp_all
  rw [ea, cell_of_row _ _ _ _ _ _ e]; exact h
set_option maxRecDepth 100000 in
theorem listed_calls (f : Nat) (A : Option Addr) (es : List EnX) (n c : Nat) (w : World) (h : Ents w A es) (hn : n = es.length) (hl : n ≤ 1000000) :
    Calls Try.prog 31 #[.agg #[.int .u64 f, .slice A n c]] w fun r w' => ∃ A' n' c', r = .returned (.slice A' n' c') ∧ n' = (hdsE es).length ∧ LL w' w.heap.size (.slice A' n' c') (hdsE es) ∧ Below w.heap.size w w' := by
  have HN := Lib.hid hn
  clear hn
  have HB0 := below_alloc1 (Below.refl w.heap.size w) (Nat.le_refl _) (.cells #[.int .u64 f, .slice A n c] 34)
  go_enter Try.func31, Try.ntmps31
  go_wp2
  go_loopw [3, 5, 9] (fun v _ iv wr => ∃ j : Nat, j ≤ n ∧ iv = .int .i64 j ∧ LL wr w.heap.size v (hdsE (es.take j)) ∧ Below w.heap.size w wr) (fun _ _ iv _ => n - (intOf iv).toNat)
  case atStart => exact ⟨0, Nat.zero_le _, rfl, by simpa [hdsE] using LL.nil _ _, HB0⟩
  case round =>
    obtain ⟨j, hj, rfl, HL, HBB⟩ := hrel
    by_cases hlt : j < n
    · obtain ⟨a, o, x, rfl, ho, hmem, hok, k0, k1, k2⟩ := (h.new HBB).at_ j (by rw [← HN.out]; exact hlt)
      have HT := Lib.hid (hdsE_take es j (o, x) ho)
      clear ho
      have hsz := HBB.size
      have HB2 := Lib.hid (belowA (belowA HBB (.cells #[.int .u8 o.k, .slice x.KA o.K.length x.kc, .slice x.VA o.V.length x.vc] 26)) (.cells #[.slice x.KA o.K.length x.kc, .slice x.VA o.V.length x.vc] 24))
      have hl1 : (hdsE (es.take j)).length ≤ 2 * j := by rw [hdsE_length, List.length_take]; omega
      have HL1 := Lib.hid hl1
      clear hl1
      go_wp2_with (refine wp_appendLL lst rfl (.tmp 13) (.tmp 18) rfl w.heap.size u3 (hdsE (es.take j)) [kH (o, x), vH (o, x)] rfl ((HL.new (below_alloc1 (Below.refl _ _) (Nat.le_refl _) _)).new (below_alloc1 (Below.refl _ _) (Nat.le_refl _) _)) (some ⟨wr.heap.size + 1, 0, none⟩) 2 2 (by simp [Act.eval]) rfl (fun j y hy => ?_) (fun h => absurd h (by simp)) (by have := HL1.out; simp only [List.length_cons, List.length_nil]; omega) (by rw [asz2]; omega) fun A2 n2 c2 w2 hn2 hr2 hgr2 => ?_)
      · match j, hy with
        | 0, hy => obtain rfl := Option.some.inj hy; exact ⟨_, rfl, row_at _ _ (asz _ _) _ _ 0 _ rfl⟩
        | 1, hy => obtain rfl := Option.some.inj hy; exact ⟨_, rfl, row_at _ _ (asz _ _) _ _ 1 _ rfl⟩
        | j + 2, hy => simp at hy
      go_roundw
      case rel => exact ⟨j + 1, by omega, by go_num, by
          rw [HT.out]
          have e2 : n2 = (hdsE (es.take j)).length + 2 := by rw [hn2]; simp
          rw [e2] at hr2
          exact hr2, HB2.out.grown hgr2 HB2.out.size (fun k hk => (HL.lt k hk).1)⟩
      case measure => simp [intOf]; omega
    · obtain rfl : j = n := by omega
      clear hlt
      rw [List.take_of_length_le (Nat.le_of_eq HN.out.symm)] at HL
      obtain ⟨A1, c1, rfl⟩ := HL.form
      have HLH := Lib.hid HL
      go_wp2
      go_ret
      exact ⟨A1, _, c1, rfl, rfl, HLH.out, HBB⟩
theorem apV.ne {u v : Value} (h : apV u v) {k : Nat} (hu : u.ownBlock = some k) : v.ownBlock ≠ some k := fun e => by
  rcases h with h | h
  · rw [h] at hu; cases hu
  · exact h (hu.trans e.symm)
theorem apV.of_lt {u v : Value} {m : Nat} (h : ∀ k, u.ownBlock = some k → k < m) (g : ∀ k, v.ownBlock = some k → m ≤ k) : apV u v := sepV.of_lt h g
def kF (x : EnX) : Hd := ⟨x.2.KA, x.1.K.length + 40, x.2.kc⟩
def vF (x : EnX) : Hd := ⟨x.2.VA, x.1.V.length + 40, x.2.vc⟩
def fulls (es : List EnX) : List Hd := es.flatMap fun x => [kF x, vF x]
theorem fulls_length (es : List EnX) : (fulls es).length = 2 * es.length := pair_length _ _ _
theorem fulls_append (es ds : List EnX) : fulls (es ++ ds) = fulls es ++ fulls ds := List.flatMap_append
theorem mem_fulls {es : List EnX} {h : Hd} (hh : h ∈ fulls es) : ∃ x ∈ es, h = kF x ∨ h = vF x := by
  obtain ⟨x, hx, hu⟩ := List.mem_flatMap.1 hh
  exact ⟨x, hx, by simpa using hu⟩
theorem mem_kF {es : List EnX} {x : EnX} (h : x ∈ es) : kF x ∈ fulls es := List.mem_flatMap.2 ⟨x, h, by simp⟩
theorem mem_vF {es : List EnX} {x : EnX} (h : x ∈ es) : vF x ∈ fulls es := List.mem_flatMap.2 ⟨x, h, by simp⟩
theorem OB.someB {w : World} {base e n c : Nat} {A : Option Addr} {p : List UInt8} (h : OB w base e (.slice A n c) p) (a : Addr) (ha : A = some a) : (Value.slice A n c).ownBlock = some a.block := by
  rcases h.out.2 with ⟨h0, _⟩ | ⟨g, cap, cur, hv, _⟩
  · injection h0 with e1; rw [ha] at e1; cases e1
  · injection hv with e1; rw [ha] at e1; obtain rfl := Option.some.inj e1; rw [ha]; rfl
theorem EL.far2 {w w' : World} {base n : Nat} {v : Value} {es : List EnX} {row : Option Nat} (h : EL w base v n es) (hg : w.grownBy w' row) (hne : v.ownBlock = none ∨ v.ownBlock ≠ row) (hK : ∀ x ∈ es, ∀ a, x.2.KA = some a → some a.block ≠ row) (hV : ∀ x ∈ es, ∀ a, x.2.VA = some a → some a.block ≠ row) : EL w' base v n es :=
  ⟨h.row.kept hg hne, h.len, fun x hx => ⟨(h.ok x hx).k, (h.ok x hx).K.keep fun a e hp => hg.block _ ((h.ok x hx).K.old.out a e hp) (hK x hx a e), (h.ok x hx).V.keep fun a e hp => hg.block _ ((h.ok x hx).V.old.out a e hp) (hV x hx a e)⟩, h.far⟩
/-- the list of the lists (va) of the entries; the list of the entries ds (Ac); what they stand in, all apart -/
structure Lp (w : World) (B : Nat) (va : Value) (ls : List EnX) (i : Nat) (Ac : Option Addr) (cc : Nat) (ds : List EnX) : Prop where
  ll : LL w B va (fulls ls)
  el : EL w B (.slice Ac i cc) i ds
  K : ∀ x ∈ ds, OB w B 5 (kF x).val (x.1.K ++ marks 40)
  V : ∀ x ∈ ds, OB w B 5 (vF x).val (x.1.V ++ marks 40)
  apart : (fulls ds).Pairwise fun g h => apV g.val h.val
  farA : ∀ h ∈ fulls ds, apV h.val va
  farC : ∀ h ∈ fulls ds, apV h.val (.slice Ac i cc)
  ac : apV va (.slice Ac i cc)
theorem Lp.nil (w : World) (B : Nat) : Lp w B (.slice none 0 0) [] 0 none 0 [] :=
  ⟨LL.nil w B, EL.nil w B, fun x hx => absurd hx (by simp), fun x hx => absurd hx (by simp), List.Pairwise.nil, fun x hx => absurd hx (by simp [fulls]), fun x hx => absurd hx (by simp [fulls]), .inl rfl⟩
theorem Lp.keep {w w' : World} {B i cc : Nat} {va : Value} {ls ds : List EnX} {Ac : Option Addr} (h : Lp w B va ls i Ac cc ds) (hk : ∀ k, B ≤ k → k < w.heap.size → w'.heap[k]? = w.heap[k]?) : Lp w' B va ls i Ac cc ds :=
  ⟨h.ll.kept hk, h.el.keep hk, fun x hx => (h.K x hx).same fun k e => hk k ((h.K x hx).at_base k e).1 ((h.K x hx).at_base k e).2, fun x hx => (h.V x hx).same fun k e => hk k ((h.V x hx).at_base k e).1 ((h.V x hx).at_base k e).2, h.apart, h.farA, h.farC, h.ac⟩
theorem Lp.new {w w' : World} {B i cc : Nat} {va : Value} {ls ds : List EnX} {Ac : Option Addr} (h : Lp w B va ls i Ac cc ds) (hb : Below w.heap.size w w') : Lp w' B va ls i Ac cc ds := h.keep fun k _ hk => hb.block k hk
theorem Lp.setLow {w : World} {B i cc g j : Nat} {va u : Value} {ls ds : List EnX} {Ac : Option Addr} (h : Lp w B va ls i Ac cc ds) (hg : g < B) : Lp (w.setCell ⟨g, j, none⟩ u) B va ls i Ac cc ds := h.keep fun k h1 h2 => (setCell_grown w g j u).block k h2 (fun e => by have := Option.some.inj e; omega)
theorem Lp.grownLow {w w' : World} {B i cc g : Nat} {va : Value} {ls ds : List EnX} {Ac : Option Addr} (h : Lp w B va ls i Ac cc ds) (hw : w.grownBy w' (some g)) (hg : g < B) : Lp w' B va ls i Ac cc ds := h.keep fun k h1 h2 => hw.block k h2 (fun e => by have := Option.some.inj e; omega)
theorem Lp.lt {w : World} {B i cc : Nat} {va : Value} {ls ds : List EnX} {Ac : Option Addr} (h : Lp w B va ls i Ac cc ds) : ∀ u ∈ fulls ds, ∀ k, u.val.ownBlock = some k → B ≤ k ∧ k < w.heap.size := fun u hu k hk => by
  obtain ⟨x, hx, rfl | rfl⟩ := mem_fulls hu
  · exact (h.K x hx).at_base k hk
  · exact (h.V x hx).at_base k hk
/-- the entry x behind the entries -/
theorem Lp.pushC {w w' : World} {B i cc cc' m : Nat} {va : Value} {ls ds : List EnX} {Ac Ac' : Option Addr} {x : EnX} (h : Lp w B va ls i Ac cc ds) (hm : B ≤ m) (hlt : ∀ u ∈ fulls ds, ∀ k, u.val.ownBlock = some k → k < m) (hva : ∀ k, va.ownBlock = some k → k < m) (hvc : ∀ k, (Value.slice Ac i cc).ownBlock = some k → k < m)
    (hK : OB w m 5 (kF x).val (x.1.K ++ marks 40)) (hV : OB w m 5 (vF x).val (x.1.V ++ marks 40)) (hkv : apV (kF x).val (vF x).val)
    (hel : EL w' B (.slice Ac' (i + 1) cc') (i + 1) (ds ++ [x])) (hg : w.grownBy w' (Value.slice Ac i cc).ownBlock) (ho : (Value.slice Ac' (i + 1) cc').ownBlock = (Value.slice Ac i cc).ownBlock ∨ (Value.slice Ac' (i + 1) cc').ownBlock = some w.heap.size) : Lp w' B va ls (i + 1) Ac' cc' (ds ++ [x]) := by
  have hkl : ∀ k, (kF x).val.ownBlock = some k → m ≤ k := fun k e => (hK.at_base k e).1
  have hvl : ∀ k, (vF x).val.ownBlock = some k → m ≤ k := fun k e => (hV.at_base k e).1
  have e1 : fulls (ds ++ [x]) = fulls ds ++ [kF x, vF x] := by rw [fulls_append]; rfl
  have hck : apV (kF x).val (.slice Ac i cc) := (apV.of_lt hvc hkl).symm
  have hcv : apV (vF x).val (.slice Ac i cc) := (apV.of_lt hvc hvl).symm
  have hk : ∀ u : Value, apV u (.slice Ac i cc) → ∀ k, k < w.heap.size → u.ownBlock = some k → w'.heap[k]? = w.heap[k]? := fun u hu k hk e => hg.block k hk (fun e9 => hu.ne e e9.symm)
  have hrow : ∀ u : Value, apV u (.slice Ac i cc) → (∀ k, u.ownBlock = some k → k < w.heap.size) → apV u (.slice Ac' (i + 1) cc') := fun u hu hl => by
    rcases ho with e | e
    · exact hu.imp id fun h9 => by rw [e]; exact h9
    · exact apV.of_lt hl fun k hk => by rw [e] at hk; exact Nat.le_of_eq (Option.some.inj hk)
  have hall : ∀ u ∈ fulls (ds ++ [x]), apV u.val (.slice Ac i cc) ∧ apV u.val va ∧ ∀ k, u.val.ownBlock = some k → k < w.heap.size := fun u hu => by
    rw [e1] at hu
    rcases List.mem_append.1 hu with hu | hu
    · exact ⟨h.farC u hu, h.farA u hu, fun k e => (h.lt u hu k e).2⟩
    · simp only [List.mem_cons, List.not_mem_nil, or_false] at hu
      rcases hu with rfl | rfl
      · exact ⟨hck, (apV.of_lt hva hkl).symm, fun k e => (hK.at_base k e).2⟩
      · exact ⟨hcv, (apV.of_lt hva hvl).symm, fun k e => (hV.at_base k e).2⟩
  refine ⟨⟨h.ll.out.kept hg h.ac⟩, hel, fun y hy => ?_, fun y hy => ?_, ?_, fun u hu => (hall u hu).2.1, fun u hu => hrow _ (hall u hu).1 (hall u hu).2.2, hrow _ h.ac fun k e => (h.ll.lt k e).2⟩
  · rcases List.mem_append.1 hy with h9 | h9
    · exact (h.K y h9).same fun k e => hk _ (hall _ (mem_kF hy)).1 k ((h.K y h9).at_base k e).2 e
    · obtain rfl := List.mem_singleton.1 h9
      exact (hK.mono hm).same fun k e => hk _ hck k (hK.at_base k e).2 e
  · rcases List.mem_append.1 hy with h9 | h9
    · exact (h.V y h9).same fun k e => hk _ (hall _ (mem_vF hy)).1 k ((h.V y h9).at_base k e).2 e
    · obtain rfl := List.mem_singleton.1 h9
      exact (hV.mono hm).same fun k e => hk _ hcv k (hV.at_base k e).2 e
  · rw [e1]
    refine List.pairwise_append.2 ⟨h.apart, by simp [hkv], fun a ha b hb => ?_⟩
    simp only [List.mem_cons, List.not_mem_nil, or_false] at hb
    rcases hb with rfl | rfl
    · exact apV.of_lt (hlt a ha) hkl
    · exact apV.of_lt (hlt a ha) hvl
/-- its lists behind the lists -/
theorem Lp.pushA {w w' : World} {B i cc : Nat} {va va' : Value} {ls ds : List EnX} {Ac : Option Addr} (h : Lp w B va ls i Ac cc ds) (hll : LL w' B va' (fulls ds)) (hg : w.grownBy w' va.ownBlock) (ho : va'.ownBlock = va.ownBlock ∨ va'.ownBlock = some w.heap.size) : Lp w' B va' ds i Ac cc ds := by
  have hk : ∀ u : Value, apV u va → ∀ k, k < w.heap.size → u.ownBlock = some k → w'.heap[k]? = w.heap[k]? := fun u hu k hk e => hg.block k hk (fun e9 => hu.ne e e9.symm)
  have hrow : ∀ u : Value, apV u va → (∀ k, u.ownBlock = some k → k < w.heap.size) → apV u va' := fun u hu hl => by
    rcases ho with e | e
    · exact hu.imp id fun h9 => by rw [e]; exact h9
    · exact apV.of_lt hl fun k hk => by rw [e] at hk; exact Nat.le_of_eq (Option.some.inj hk)
  refine ⟨hll, h.el.far2 hg h.ac.symm (fun x hx a e e9 => ?_) (fun x hx a e e9 => ?_), fun y hy => (h.K y hy).same fun k e => hk _ (h.farA _ (mem_kF hy)) k ((h.K y hy).at_base k e).2 e, fun y hy => (h.V y hy).same fun k e => hk _ (h.farA _ (mem_vF hy)) k ((h.V y hy).at_base k e).2 e, h.apart, fun u hu => hrow _ (h.farA u hu) fun k e => (h.lt u hu k e).2, h.farC, (hrow _ h.ac.symm fun k e => (h.el.lt k e).2).symm⟩
  · exact (h.farA _ (mem_kF hx)).ne ((h.K x hx).someB a e) e9.symm
  · exact (h.farA _ (mem_vF hx)).ne ((h.V x hx).someB a e) e9.symm
theorem Lp.apt {w : World} {B i cc hi : Nat} {va : Value} {ls ds : List EnX} {Ac : Option Addr} (h : Lp w B va ls i Ac cc ds) (hh : w.heap.size ≤ hi) (hl : ∀ x ∈ ds, x.1.K.length + 130 ≤ 140737488355328 ∧ x.1.V.length + 130 ≤ 140737488355328) : Apt w B hi (fulls ds) := by
  refine ⟨fun g hg => ?_, fun g hg k hk => Nat.lt_of_lt_of_le (h.lt g hg k hk).2 hh, h.apart, fun g hg => ?_⟩
  · obtain ⟨x, hx, rfl | rfl⟩ := mem_fulls hg
    · exact ⟨_, h.K x hx⟩
    · exact ⟨_, h.V x hx⟩
  · obtain ⟨x, hx, rfl | rfl⟩ := mem_fulls hg
    · have := (hl x hx).1; show x.1.K.length + 40 + 90 ≤ _; omega
    · have := (hl x hx).2; show x.1.V.length + 40 + 90 ≤ _; omega
/-- one of the lists is written over -/
theorem Apt.over {w w' : World} {lo hi g : Nat} {hs : List Hd} (h : Apt w lo hi hs) (i : Nat) (x : Hd) (hx : hs[i]? = some x) (hb : x.val.ownBlock = some g) (q : List UInt8) (ho : OB w' lo 5 x.val q) (hg : w.grownBy w' (some g)) : Apt w' lo hi hs := by
  refine ⟨fun y hy => ?_, h.lt, h.apart, h.len⟩
  obtain ⟨hi', e⟩ := List.getElem?_eq_some_iff.1 hx
  obtain ⟨j, hj, rfl⟩ := List.getElem_of_mem hy
  by_cases hij : j = i
  · subst hij; rw [e]; exact ⟨q, ho⟩
  · obtain ⟨p, hp⟩ := h.own _ hy
    have hap : apV hs[j].val x.val := by
      rw [← e]
      rcases Nat.lt_or_gt_of_ne hij with h1 | h1
      · exact List.pairwise_iff_getElem.1 h.apart j i hj hi' h1
      · exact (List.pairwise_iff_getElem.1 h.apart i j hi' hj h1).symm
    exact ⟨p, hp.keep hg (hap.imp id fun h9 => by rw [← hb]; exact h9)⟩
/-- a fact about the world, and that it outlives a step of the kind R -/
structure Mv (R : World → World → Prop) (P : World → Prop) (w : World) : Prop where
  h : P w
  m : ∀ a b, R a b → P a → P b
theorem Mv.step {R : World → World → Prop} {P : World → Prop} {w w' : World} (h : Mv R P w) (r : R w w') : Mv R P w' := ⟨h.m _ _ r h.h, h.m⟩
/-- a call that may write one block of those that stand -/
def Wr1 (g : Nat) (a b : World) : Prop := Step a b (· = g) (· = g)
theorem Wr1.new {g : Nat} {a b : World} (h : Below a.heap.size a b) : Wr1 g a b := Step.of_below h _
theorem Wr1.row {g : Nat} {a b : World} (h : a.grownBy b (some g)) : Wr1 g a b := Step.of_grown h rfl
theorem Wr1.trans {g : Nat} {a b c : World} (h : Wr1 g a b) (k : Wr1 g b c) : Wr1 g a c := Step.trans h k
theorem Wr1.alloc (g : Nat) (a : World) (o : Obj) : Wr1 g a (a.alloc o) := Wr1.new (below_alloc1 (Below.refl _ _) (Nat.le_refl _) o)
theorem mvOB {g base e : Nat} {v : Value} {p : List UInt8} (hg : g < base) {w : World} (h : OB w base e v p) : Mv (Wr1 g) (fun a => OB a base e v p) w := by
  refine ⟨h, fun a b hs h => ⟨h.out.1, ?_⟩⟩
  rcases h.out.2 with h1 | ⟨k, cap, cur, e1, hb, hh, r⟩
  · exact .inl h1
  · exact .inr ⟨k, cap, cur, e1, hb, (hs.block k (Array.getElem?_eq_some_iff.1 hh).1 (by show ¬ k = g; omega)).trans hh, r⟩
theorem mvRB {g : Nat} {A : Option Addr} {c : Nat} {p : List UInt8} (hf : Free (· = g) A p) {w : World} (h : RB w A c p) : Mv (Wr1 g) (fun a => RB a A c p) w := ⟨h, fun _ _ hs h => h.step hs hf⟩
theorem mvB {w : World} {g : Nat} (hg : w.heap.size ≤ g) {a : World} (h : Below w.heap.size w a) (h2 : g < a.heap.size) : Mv (Wr1 g) (fun a => Below w.heap.size w a ∧ g < a.heap.size) a := by
  refine ⟨⟨h, h2⟩, ?_⟩
  rintro a b hs ⟨h1, h2⟩
  refine ⟨⟨hs.os.trans h1.os, hs.tape.trans h1.tape, hs.output.trans h1.output, Nat.le_trans h1.size hs.size, fun k hk => (hs.block k (Nat.lt_of_lt_of_le hk h1.size) (by show ¬ k = g; omega)).trans (h1.block k hk)⟩, Nat.lt_of_lt_of_le h2 hs.size⟩
theorem mvS {g n : Nat} {w : World} (h : n ≤ w.heap.size) : Mv (Wr1 g) (fun a => n ≤ a.heap.size) w := ⟨h, fun _ _ hs h => Nat.le_trans h hs.size⟩
/-- below hi all stays -/
theorem mv2S {h n : Nat} {w : World} (hn : n ≤ w.heap.size) : Mv (Below h) (fun a => n ≤ a.heap.size) w := ⟨hn, fun _ _ hs h => Nat.le_trans h hs.size⟩
theorem mv2B {w : World} {hi : Nat} (hw : w.heap.size ≤ hi) {a : World} (h : Below w.heap.size w a) : Mv (Below hi) (fun a => Below w.heap.size w a) a := ⟨h, fun a b hs h => ⟨hs.os.trans h.os, hs.tape.trans h.tape, hs.output.trans h.output, Nat.le_trans h.size hs.size, fun k hk => (hs.block k (by omega)).trans (h.block k hk)⟩⟩
/-- new memory alone -/
def Bl (a b : World) : Prop := Below a.heap.size a b
theorem Mv.and {R : World → World → Prop} {P Q : World → Prop} {w : World} (h : Mv R P w) (k : Mv R Q w) : Mv R (fun a => P a ∧ Q a) w := ⟨⟨h.h, k.h⟩, fun a b r p => ⟨h.m a b r p.1, k.m a b r p.2⟩⟩
theorem bgB {w a : World} (h : Below w.heap.size w a) : Mv Bl (fun a => Below w.heap.size w a) a := ⟨h, fun _ _ r h => below_then h r⟩
theorem bgRB {w : World} {A : Option Addr} {c : Nat} {p : List UInt8} (h : RB w A c p) : Mv Bl (fun a => RB a A c p) w := ⟨h, fun _ _ r h => h.new r⟩
theorem bgOB {w : World} {base e : Nat} {v : Value} {p : List UInt8} (h : OB w base e v p) : Mv Bl (fun a => OB a base e v p) w := ⟨h, fun _ _ r h => h.new r⟩
theorem bgEnts {w : World} {A : Option Addr} {es : List EnX} (h : Ents w A es) : Mv Bl (fun a => Ents a A es) w := ⟨h, fun _ _ r h => h.new r⟩
theorem bgEL {w : World} {base n : Nat} {v : Value} {es : List EnX} (h : EL w base v n es) : Mv Bl (fun a => EL a base v n es) w := ⟨h, fun _ _ r h => h.new r⟩
theorem SepE.new {w w' : World} {base : Nat} {es : List EnX} (h : SepE w base es) (hb : Below w.heap.size w w') : SepE w' base es := h.keep fun u hu k hk => hb.block k (h.lt u hu k hk).2
theorem SepE.ok1 {w : World} {base : Nat} {e : En} {a : EnA} (h : SepE w base [(e, a)]) (hk : e.k ≤ 255) : EnOk w e a := ⟨hk, (h.K _ (List.mem_singleton.2 rfl)).rb, (h.V _ (List.mem_singleton.2 rfl)).rb⟩
theorem bgSep {w : World} {base : Nat} {es : List EnX} (h : SepE w base es) : Mv Bl (fun a => SepE a base es) w := ⟨h, fun _ _ r h => h.new r⟩
theorem bgOk {w : World} {e : En} {a : EnA} (h : EnOk w e a) : Mv Bl (fun w => EnOk w e a) w := ⟨h, fun _ _ r h => h.new r⟩
theorem bgDuo {w : World} {b : Nat} {x y : Value} (h : Duo w b x y) : Mv Bl (fun w => Duo w b x y) w := ⟨h, fun _ _ r h => h.new r⟩
theorem bgTrio {w : World} {b : Nat} {x y z : Value} (h : Trio w b x y z) : Mv Bl (fun w => Trio w b x y z) w := ⟨h, fun _ _ r h => h.new r⟩
theorem bgApt {w : World} {lo hi : Nat} {hs : List Hd} (h : Apt w lo hi hs) (hh : hi ≤ w.heap.size) : Mv Bl (fun a => Apt a lo hi hs ∧ hi ≤ a.heap.size) w := ⟨⟨h, hh⟩, fun _ _ r h => ⟨h.1.new r h.2, Nat.le_trans h.2 r.size⟩⟩
theorem bgLp {w : World} {B i cc : Nat} {va : Value} {ls ds : List EnX} {Ac : Option Addr} (h : Lp w B va ls i Ac cc ds) : Mv Bl (fun w => Lp w B va ls i Ac cc ds) w := ⟨h, fun _ _ r h => h.new r⟩
theorem spareX (A : Option Addr) (p : List UInt8) (n c : Nat) (w : World) (hp : RB w A c p) (hn : n = p.length) (hl : p.length ≤ 140737488355328) :
    Calls Try.prog 25 #[.slice A n c] w fun e w' => ∃ g, e = .returned (.tuple #[.slice (some ⟨g, 0, none⟩) p.length (p.length + 40), .slice (some ⟨g, 0, none⟩) (p.length + 40) (p.length + 40)]) ∧ g = w.heap.size ∧ OB w' g 5 (.slice (some ⟨g, 0, none⟩) (p.length + 40) (p.length + 40)) (p ++ marks 40) ∧ Below w.heap.size w w' := by
  subst hn
  exact (spare_calls A p c w hp hl).mono fun e w' ⟨h1, h2⟩ => ⟨_, h1, rfl, h2.own, h2.below⟩
theorem NewE.sep {w w' : World} {e : En} {a : EnA} (h : NewE w w' e a) (hkv : sepV (.slice a.KA e.K.length a.kc) (.slice a.VA e.V.length a.vc)) : SepE w' w.heap.size [(e, a)] :=
  ⟨fun x hx => by obtain rfl := List.mem_singleton.1 hx; exact h.K, fun x hx => by obtain rfl := List.mem_singleton.1 hx; exact h.V, by
    show [kV (e, a), vV (e, a)].Pairwise sepV
    simp only [List.pairwise_cons, List.mem_cons, List.not_mem_nil, or_false, forall_eq, List.Pairwise.nil, and_true, false_imp_iff, implies_true]
    exact hkv⟩
theorem Mv.name {R : World → World → Prop} {P : World → Prop} {w : World} (h : Mv R P w) : ∃ Q : World → Prop, Q = P ∧ Mv R Q w := ⟨P, rfl, h⟩
theorem Apt.perm {w : World} {lo hi : Nat} {hs gs : List Hd} (h : Apt w lo hi hs) (p : hs.Perm gs) : Apt w lo hi gs :=
  ⟨fun x hx => h.own x (p.mem_iff.2 hx), fun x hx => h.lt x (p.mem_iff.2 hx), (p.pairwise_iff (fun h => apV.symm h)).1 h.apart, fun x hx => h.len x (p.mem_iff.2 hx)⟩
/-- a whole row, alone -/
theorem Apt.at_ {w : World} {g m c : Nat} {p : List UInt8} (h : OB w g 5 (.slice (some ⟨g, 0, none⟩) m c) p) (hl : m + 90 ≤ 140737488355328) : Apt w g (g + 1) [⟨some ⟨g, 0, none⟩, m, c⟩] := by
  refine ⟨fun x hx => ?_, fun x hx k hk => ?_, List.pairwise_singleton _ _, fun x hx => ?_⟩ <;> obtain rfl := List.mem_singleton.1 hx
  · exact ⟨p, h⟩
  · obtain rfl := Option.some.inj hk; exact Nat.lt_succ_self _
  · exact hl
/-- two boxes are filled -/
def put5 (X : World) (b c : Nat) (x y p q r : Value) : World := ((((X.setCell ⟨b, 0, none⟩ x).setCell ⟨b, 1, none⟩ y).setCell ⟨c, 0, none⟩ p).setCell ⟨c, 1, none⟩ q).setCell ⟨c, 2, none⟩ r
theorem put5_block (X : World) (b c : Nat) (x y p q r : Value) (k : Nat) (hb : k ≠ b) (hc : k ≠ c) : (put5 X b c x y p q r).heap[k]? = X.heap[k]? := by
  unfold put5
  rw [heap_setCell_other _ _ _ _ hc, heap_setCell_other _ _ _ _ hc, heap_setCell_other _ _ _ _ hc, heap_setCell_other _ _ _ _ hb, heap_setCell_other _ _ _ _ hb]
theorem r10_end {w9 w10 w11 X : World} {Q : World → Prop} {b15 b16 m10 m11 lo n c10 tf nk nv kc vc : Nat} {A10 KA VA : Option Addr} {ds : List EnX} {x0 y0 p0 q0 r0 : Value} {kv : Int} {K V : List UInt8} (HQ : Mv Bl Q w9) (B : Below w9.heap.size w9 X) (q15 : Duo X b15 x0 y0) (q16 : Trio X b16 p0 q0 r0) (hE : EL w10 m10 (.slice A10 n c10) n ds) (E : Below w10.heap.size w10 X)
    (hK : OB w11 m11 5 (.slice KA nk kc) K) (hV : OB w11 m11 5 (.slice VA nv vc) V) (N : Below w11.heap.size w11 X) (hne : b15 ≠ b16) (l15 : w9.heap.size ≤ b15) (l16 : w9.heap.size ≤ b16) (e15 : b15 < m10 ∨ w10.heap.size ≤ b15) (e16 : b16 < m10 ∨ w10.heap.size ≤ b16) (d15 : b15 < m11 ∨ w11.heap.size ≤ b15) (d16 : b16 < m11 ∨ w11.heap.size ≤ b16) (h10 : lo ≤ m10) (h11 : lo ≤ m11) :
    Mv Bl (fun a => Q a ∧ Duo a b15 (.int .u64 tf) (.slice A10 n c10) ∧ Trio a b16 (.int .u8 kv) (.slice KA nk kc) (.slice VA nv vc) ∧ EL a lo (.slice A10 n c10) n ds ∧ OB a lo 5 (.slice KA nk kc) K ∧ OB a lo 5 (.slice VA nv vc) V) (put5 X b15 b16 (.int .u64 tf) (.slice A10 n c10) (.int .u8 kv) (.slice KA nk kc) (.slice VA nv vc)) := by
  have hd := (((q15.set0 (.int .u64 tf)).set1 (.slice A10 n c10)).other (g := b16) (j := 0) (u := .int .u8 kv) hne).other (g := b16) (j := 1) (u := .slice KA nk kc) hne |>.other (g := b16) (j := 2) (u := .slice VA nv vc) hne
  have ht := ((((q16.other (g := b15) (j := 0) (u := .int .u64 tf) (Ne.symm hne)).other (g := b15) (j := 1) (u := .slice A10 n c10) (Ne.symm hne)).set0 (.int .u8 kv)).set1 (.slice KA nk kc)).set2 (.slice VA nv vc)
  have hB : Below w9.heap.size w9 (put5 X b15 b16 (.int .u64 tf) (.slice A10 n c10) (.int .u8 kv) (.slice KA nk kc) (.slice VA nv vc)) :=
    ((((B.setCell l15 _).setCell l15 _).setCell l16 _).setCell l16 _).setCell l16 _
  refine (HQ.step hB).and ((bgDuo hd).and ((bgTrio ht).and ((bgEL ((hE.keep fun k h1 h2 => ?_).monoK h10)).and ((bgOB ((hK.same fun k e => ?_).mono h11)).and (bgOB ((hV.same fun k e => ?_).mono h11))))))
  · exact (put5_block X b15 b16 _ _ _ _ _ k (by omega) (by omega)).trans (E.block k h2)
  · have := hK.at_base k e
    exact (put5_block X b15 b16 _ _ _ _ _ k (by omega) (by omega)).trans (N.block k this.2)
  · have := hV.at_base k e
    exact (put5_block X b15 b16 _ _ _ _ _ k (by omega) (by omega)).trans (N.block k this.2)
theorem farNew {lo m gK gV kc vc : Nat} {v : Value} {o : En} (hv : ∀ k, v.ownBlock = some k → k < m) (hlo : lo ≤ m) (hK : m ≤ gK) (hV : m ≤ gV) : FarE lo v (o, ⟨some ⟨gK, 0, none⟩, kc, some ⟨gV, 0, none⟩, vc⟩) :=
  ⟨fun a e _ => by obtain rfl := Option.some.inj e; exact ⟨Nat.le_trans hlo hK, fun e9 => by have := hv _ e9; simp only at this; omega⟩, fun a e _ => by obtain rfl := Option.some.inj e; exact ⟨Nat.le_trans hlo hV, fun e9 => by have := hv _ e9; simp only at this; omega⟩⟩
theorem apG {g k m n c d : Nat} (h : g ≠ k) : apV (.slice (some ⟨g, 0, none⟩) m c) (.slice (some ⟨k, 0, none⟩) n d) := .inr fun e => h (Option.some.inj e)
theorem encBF_small (f : Nat) (l : List En) : (encBF f l).1.length ≤ 30000 := by
  by_cases h : (encBF f l).2 = 0
  · have h2 : encBF f l = ((encBF f l).1, 0) := by rw [← h]
    obtain ⟨h3, _, _, h4, h5⟩ := encBF_ok f l _ h2
    have h6 := flat_le l h5
    have h7 := WireMath.uvarL_length f
    have h8 := WireMath.uvarL_length l.length
    rw [h3]
    unfold encBL
    simp only [List.length_append]
    omega
  · unfold encBF at *
    split at h
    · exact absurd rfl h
    · rename_i h1; rw [if_neg h1]; exact Nat.zero_le _
theorem ensOf_at {es ds : List EnX} (h : ensOf ds = ensOf es) (i : Nat) (o : En) (x : EnA) (ho : es[i]? = some (o, x)) : ∃ a, ds[i]? = some (o, a) := by
  have h1 : (ensOf ds)[i]? = some o := by rw [h]; unfold ensOf; rw [List.getElem?_map, ho]; rfl
  unfold ensOf at h1
  rw [List.getElem?_map] at h1
  cases hd : ds[i]? with
  | none => rw [hd] at h1; cases h1
  | some y => rw [hd] at h1; obtain rfl := Option.some.inj h1; exact ⟨y.2, rfl⟩
theorem cell_newM {w w' : World} {a : Addr} {v : Value} (hb : Below w.heap.size w w') (h : w.cell? a = some v) : w'.cell? a = some v := (hb.cell (World.block_lt_of_cell? w _ h)).trans h
theorem fulls_at (ds : List EnX) (i : Nat) (hi : i < (fulls ds).length) : ∃ h, (fulls ds)[i]? = some h ∧ h ∈ fulls ds ∧ 40 ≤ h.n := by
  have h1 := List.getElem_mem hi
  refine ⟨_, List.getElem?_eq_getElem hi, h1, ?_⟩
  obtain ⟨x, _, e | e⟩ := mem_fulls h1
  · rw [e]; exact Nat.le_add_left _ _
  · rw [e]; exact Nat.le_add_left _ _
/-- all that stood still stands, but for the blocks F -/
structure Agr (F : Nat → Prop) (a b : World) : Prop where
  size : a.heap.size ≤ b.heap.size
  block : ∀ k, k < a.heap.size → ¬ F k → b.heap[k]? = a.heap[k]?
theorem Agr.refl (F : Nat → Prop) (a : World) : Agr F a a := ⟨Nat.le_refl _, fun _ _ _ => rfl⟩
theorem Agr.step {F : Nat → Prop} {a b c : World} (h : Agr F a b) (r : Bl b c) : Agr F a c := ⟨Nat.le_trans h.size r.size, fun k hk hf => (r.block k (Nat.lt_of_lt_of_le hk h.size)).trans (h.block k hk hf)⟩
theorem Agr.grown {F : Nat → Prop} {a b c : World} {g : Nat} (h : Agr F a b) (r : b.grownBy c (some g)) (hg : F g) : Agr F a c := ⟨Nat.le_trans h.size r.size, fun k hk hf => (r.block k (Nat.lt_of_lt_of_le hk h.size) (fun e => hf (by have := Option.some.inj e; rw [this]; exact hg))).trans (h.block k hk hf)⟩
theorem Agr.weak {F G : Nat → Prop} {a b : World} (h : Agr F a b) (hg : ∀ k, F k → G k) : Agr G a b := ⟨h.size, fun k hk hf => h.block k hk (fun e => hf (hg k e))⟩
theorem bgAgr {F : Nat → Prop} {a b : World} (h : Agr F a b) : Mv Bl (fun c => Agr F a c) b := ⟨h, fun _ _ r h => h.step r⟩
theorem bits_xor_u8M (a b : UInt8) : bits .xor .u8 (uB a) (uB b) = uB (a ^^^ b) := by
  show IntKind.u8.wrap ((BitVec.ofInt 8 (uB a) ^^^ BitVec.ofInt 8 (uB b)).toNat : Int) = _
  have h : ∀ c : UInt8, BitVec.ofInt 8 (uB c) = c.toBitVec := by
    intro c
    apply BitVec.eq_of_toNat_eq
    unfold uB
    rw [BitVec.ofInt_natCast]
    simp
  rw [h, h, ← UInt8.toBitVec_xor]
  have := (a ^^^ b).toNat_lt
  rw [IntKind.wrap_u8]
  show ((a ^^^ b).toNat : Int) % 256 = uB (a ^^^ b)
  unfold uB
  omega
set_option maxRecDepth 100000 in
/-- Apart of lists that lie apart, in a row that lies in none of their blocks -/
theorem apartM (lo hi : Nat) (a : Option Addr) (hs : List Hd) (n c : Nat) (w : World) (h : Apt w lo hi hs) (hhi : hi ≤ w.heap.size) (hlo : lo ≤ w.heap.size) (hn : n = hs.length) (hc : ∀ (i : Nat) (x : Hd), hs[i]? = some x → ∃ b : Addr, a = some b ∧ w.cell? (b.add i) = some x.val ∧ ∀ y ∈ hs, y.val.ownBlock ≠ some b.block) (hl : hs.length ≤ 5100000000000) :
    Calls Try.prog 32 #[.slice a n c] w fun e w' => e = .returned (.bool true) ∧ Below lo w w' := by
  have hP : ∃ P : Nat → List UInt8, ∀ (i : Nat) (x : Hd), hs[i]? = some x → OB w lo 5 x.val (P i) := by
    have : ∀ i : Nat, ∃ p : List UInt8, ∀ x : Hd, hs[i]? = some x → OB w lo 5 x.val p := by
      intro i
      cases he : hs[i]? with
      | none => exact ⟨[], fun x hx => by cases hx⟩
      | some y =>
        obtain ⟨p, hp⟩ := h.own y (List.mem_of_getElem? he)
        exact ⟨p, fun x hx => by obtain rfl := Option.some.inj hx; exact hp⟩
    exact ⟨fun i => (this i).choose, fun i x hx => (this i).choose_spec x hx⟩
  obtain ⟨P, hP⟩ := hP
  have HA : AP w lo w.heap.size a hs P := by
    refine ⟨fun i x hx => ?_, hP, fun i x k hx hk => Nat.lt_of_lt_of_le (h.lt x (List.mem_of_getElem? hx) k hk) hhi, fun i j x y hx hy hij => ?_, fun i x hx => h.len x (List.mem_of_getElem? hx)⟩
    · obtain ⟨b, e1, e2, e3⟩ := hc i x hx
      have hbl : b.block < w.heap.size := by have := World.block_lt_of_cell? w _ e2; rwa [block_add] at this
      exact ⟨b, e1, e2, hbl, fun j y hy => e3 y (List.mem_of_getElem? hy)⟩
    · obtain ⟨hi', rfl⟩ := List.getElem?_eq_some_iff.1 hx
      obtain ⟨hj', rfl⟩ := List.getElem?_eq_some_iff.1 hy
      rcases Nat.lt_or_gt_of_ne hij with h1 | h1
      · exact List.pairwise_iff_getElem.1 h.apart i j hi' hj' h1
      · exact (List.pairwise_iff_getElem.1 h.apart j i hj' hi' h1).symm
  refine (apart_calls lo a hs P n c w HA hlo hn hl).mono fun e w' ⟨h1, _, h3⟩ => ⟨h1, h3.below hlo ?_⟩
  rintro k ⟨i, x, hx, hk⟩
  exact ((hP i x hx).at_base k hk).1
theorem Apt.far {w w' : World} {lo hi : Nat} {hs : List Hd} {v : Value} (h : Apt w lo hi hs) (hg : w.grownBy w' v.ownBlock) (hv : ∀ x ∈ hs, apV (Hd.val x) v) : Apt w' lo hi hs :=
  ⟨fun x hx => (h.own x hx).imp fun _ hp => hp.keep hg (hv x hx), h.lt, h.apart, h.len⟩
theorem apV.row {u v v' : Value} {m : Nat} (h : apV u v) (hu : ∀ k, u.ownBlock = some k → k < m) (ho : v'.ownBlock = v.ownBlock ∨ v'.ownBlock = some m) : apV u v' := by
  rcases ho with e | e
  · exact h.imp id fun h9 => by rw [e]; exact h9
  · exact apV.of_lt hu fun k hk => by rw [e] at hk; exact Nat.le_of_eq (Option.some.inj hk)
theorem OB.notBox {w : World} {g m c n k b d : Nat} {p : List UInt8} {A : Option Addr} (h : OB w b 5 (.slice (some ⟨g, 0, none⟩) m c) p) (hp : 1 < p.length) (hc : w.cell? ⟨k, 1, none⟩ = some (.slice A n d)) : k ≠ g := fun e => by
  subst e
  have := (h.cell 1 hp).1
  rw [hc] at this
  cases this
/-- what stood from lo to hi at a stands -/
structure Fix (lo hi : Nat) (a b : World) : Prop where
  size : hi ≤ b.heap.size
  block : ∀ k, lo ≤ k → k < hi → b.heap[k]? = a.heap[k]?
theorem bgFix {lo hi : Nat} {a b : World} (h : Fix lo hi a b) : Mv Bl (fun c => Fix lo hi a c) b := ⟨h, fun _ _ r h => ⟨Nat.le_trans h.size r.size, fun k h1 h2 => (r.block k (Nat.lt_of_lt_of_le h2 h.size)).trans (h.block k h1 h2)⟩⟩
theorem Fix.grown {lo hi : Nat} {a b c : World} {row : Option Nat} (h : Fix lo hi a b) (r : b.grownBy c row) (hr : ∀ k, row = some k → hi ≤ k) : Fix lo hi a c :=
  ⟨Nat.le_trans h.size r.size, fun k h1 h2 => (r.block k (Nat.lt_of_lt_of_le h2 h.size) (fun e => by have := hr k e.symm; omega)).trans (h.block k h1 h2)⟩
theorem Fix.el {lo n : Nat} {v : Value} {es : List EnX} {a b : World} (h : Fix lo a.heap.size a b) (x : EL a lo v n es) : EL b lo v n es := x.keep fun k h1 h2 => h.block k h1 h2
theorem Fix.duo {lo g : Nat} {x y : Value} {a b : World} (h : Fix lo a.heap.size a b) (d : Duo a g x y) (hg : lo ≤ g) : Duo b g x y := d.keep (h.block g hg d.lt)
theorem Fix.trio {lo g : Nat} {x y z : Value} {a b : World} (h : Fix lo a.heap.size a b) (d : Trio a g x y z) (hg : lo ≤ g) : Trio b g x y z := d.keep (h.block g hg d.lt)
theorem Fix.ob {lo e : Nat} {v : Value} {p : List UInt8} {a b : World} (h : Fix lo a.heap.size a b) (o : OB a lo e v p) : OB b lo e v p := o.same fun k hk => h.block k (o.at_base k hk).1 (o.at_base k hk).2
theorem Fix.apt {lo l1 h1 : Nat} {hs : List Hd} {a b : World} (h : Fix lo a.heap.size a b) (o : Apt a l1 h1 hs) (hl : lo ≤ l1) (hh : h1 ≤ a.heap.size) : Apt b l1 h1 hs := o.keep fun k h1 h2 => h.block k (by omega) (by omega)
theorem bgLL {w : World} {base : Nat} {v : Value} {hs : List Hd} (h : LL w base v hs) : Mv Bl (fun a => LL a base v hs) w := ⟨h, fun _ _ r h => h.new r⟩
theorem Apt.farRow {w : World} {lo hi a b : Nat} {hs : List Hd} {v : Value} (h : Apt w lo hi hs) (hv : ∀ k, v.ownBlock = some k → a ≤ k ∧ k < b) (hd : hi ≤ a ∨ b ≤ lo) : ∀ x ∈ hs, apV (Hd.val x) v := fun x hx => by
  by_cases hn : (Hd.val x).ownBlock = none
  · exact .inl hn
  · refine .inr fun e => ?_
    obtain ⟨k, hk⟩ := Option.ne_none_iff_exists'.1 hn
    obtain ⟨p, hp⟩ := h.own x hx
    have h1 := h.lt x hx k hk
    have h2 := (hp.at_base k hk).1
    have h3 := hv k (e.symm.trans hk)
    omega
theorem LL.someB {w : World} {base n c : Nat} {A : Option Addr} {hs : List Hd} (h : LL w base (.slice A n c) hs) (a : Addr) (ha : A = some a) : (Value.slice A n c).ownBlock = some a.block := by
  rcases h.out.2 with ⟨h0, _⟩ | ⟨g, cap, cur, hv, _⟩
  · injection h0 with e1; rw [ha] at e1; cases e1
  · injection hv with e1; rw [ha] at e1; obtain rfl := Option.some.inj e1; rw [ha]; rfl
theorem below_lowM {B B' : Nat} {w w' : World} (h : Below B w w') (hB : B' ≤ B) : Below B' w w' := ⟨h.os, h.tape, h.output, h.size, fun k hk => h.block k (by omega)⟩
theorem rows_at (w : World) (k : Nat) (hk : w.heap.size = k) (hs : List Hd) (t : TypeId) : ∀ (j : Nat) (y : Hd), hs[j]? = some y → ∃ b : Addr, some (⟨k, 0, none⟩ : Addr) = some b ∧ (w.alloc (.cells (hs.map Hd.val).toArray t)).cell? (b.add j) = some y.val := fun j y hy => ⟨_, rfl, row_at w k hk _ t j _ (by simp [hy])⟩
theorem add_posM (a : Addr) (k : Nat) (hk : 0 < k) : a.add k = ⟨a.block, a.off + k, none⟩ := by
  unfold Addr.add
  split
  · rename_i h; simp_all
  · rfl
theorem perm8 {α : Type} (f s t : α) (X Y U V L : List α) : ((((((([f] ++ X) ++ Y) ++ U) ++ V) ++ L) ++ [s]) ++ [t]).Perm (((L ++ ([f, s, t] ++ (U ++ V))) ++ X) ++ Y) := by
  classical
  refine List.perm_iff_count.2 fun a => ?_
  simp only [List.count_append, List.count_cons, List.count_nil]
  omega
open WireMath (numS beN rawS blobS uvarS grpL uvarL wideL)

set_option maxHeartbeats 4000000 in
set_option maxRecDepth 100000 in
theorem entryMemory_calls (A0 : Option Addr) (P : List UInt8) (N c0 : Nat) (V : Int) (hV0 : 0 ≤ V) (hV1 : V ≤ 18446744073709551615) (A1 : Option Addr) (es0 : List EnX) (n c1 : Nat) (w : World) (hp : RB w A0 c0 P) (hN : N = P.length) (hl : P.length ≤ 140737488351232) (h : Ents w A1 es0) (hn : n = es0.length) (hnl : n * 56 ≤ 140737488351232) (hs : ∀ x ∈ es0, x.1.K.length ≤ 140737488351232 ∧ x.1.V.length ≤ 140737488351232) :
    Calls Try.prog 7 #[.slice A0 N c0, .agg #[.int .u64 V, .slice A1 n c1]] w fun r w' => r = .returned (.bool true) ∧ Below w.heap.size w w' := by
  obtain ⟨f, rfl⟩ := Int.eq_ofNat_of_zero_le hV0
  subst hN
  have hl1 : P.length ≤ 140737488355328 := by omega
  have HSV := decF_small P
  have hk := decF_k P
  have HLN := Bat.len P
  have HSB := decB_small P
  obtain ⟨e, v, hv⟩ : ∃ e v, decF P = (e, v) := ⟨_, _, rfl⟩
  rw [hv] at hk HSV
  obtain ⟨t, ht⟩ : ∃ t, decB P = t := ⟨_, rfl⟩
  rw [ht] at HLN HSB
  have HD1 : ∀ (w : World) (A : Option Addr) (c : Nat), RB w A c P → Calls Try.prog 21 #[.slice A P.length c] w fun r w' => ∃ A' c', r = .returned (.tuple #[.agg #[.int .u64 t.f, .slice A' t.l.length c'], .int .i64 t.e]) ∧ BatK w w' A' t.l.length t.l := fun w A c h => decodeBK_calls A P _ c w h rfl hl1 t ht
  have HD2 : ∀ (w : World) (A : Option Addr) (c : Nat), RB w A c P → Calls Try.prog 24 #[.slice A P.length c] w fun r w' => ∃ a : EnA, r = .returned (.tuple #[.agg #[.int .u8 v.k, .slice a.KA v.K.length a.kc, .slice a.VA v.V.length a.vc], .int .i64 e]) ∧ NewE w w' v a ∧ sepV (.slice a.KA v.K.length a.kc) (.slice a.VA v.V.length a.vc) := fun w A c h => by
    have := decodeEK_calls A P _ c w h rfl hl1; rw [hv] at this; exact this
  have HD1 := Lib.hid HD1
  have HD2 := Lib.hid HD2
  have HLN := Lib.hid HLN
  have HSB := Lib.hid HSB
  have HSV := Lib.hid HSV
  have HNN := Lib.hid hn
  have HSS := Lib.hid hs
  have hee : ((e : Int) != e) = false := bne_self_eq_false _
  have htt : ((t.e : Int) != t.e) = false := bne_self_eq_false _
  clear hv ht hn hs hV0
  have n0 := (below_alloc1 (Below.refl w.heap.size w) (Nat.le_refl _) (.cells #[.int .u64 f, .slice A1 n c1] 34))
  have HQ0 := Lib.hid ((bgB n0).and ((bgRB (hp.new n0)).and ((bgEnts (h.new n0)).and (bgDuo (Duo.fresh w w.heap.size rfl (.int .u64 f) (.slice A1 n c1) 34)))))
  clear hp h n0
  go_enter Try.func7, Try.ntmps7
  go_upto_region 10 with (first
    | (go_at_call 13; go_loud ((with_reducible refine (awake5_calls _).mono ?_); rintro e1 w1 ⟨rfl, hb1⟩; have HQ1 := Lib.hid (HQ0.out.step hb1); clear hb1 HQ0))
    | (go_at_call 25; go_loud ((with_reducible refine (spareX A0 P _ c0 _ HQ1.out.h.2.1 rfl hl1).mono ?_); rintro e2 w2 ⟨gF, rfl, hg2, ho2, hb2⟩; have HZ2 := Lib.hid (show w.heap.size < gF ∧ gF < w2.heap.size from ⟨by have := HQ1.out.h.2.2.2.lt; omega, (ho2.at_base gF rfl).2⟩); have HQ2 := Lib.hid ((HQ1.out.step hb2).and (bgOB ho2)); clear hg2 ho2 hb2))
    | (go_at_call 21; go_loud ((with_reducible refine (HD1.out _ _ _ HQ2.out.h.2.rb.pre).mono ?_); rintro e3 w3 ⟨A3, c3, rfl, ⟨⟨es3, r3, he3, hl3, hE3, hS3⟩, hb3⟩⟩; have n3 := (below_alloc1 (Below.refl w3.heap.size w3) (Nat.le_refl _) (.cells #[.int .u64 t.f, .slice A3 t.l.length c3] 34)); have HZ3 := Lib.hid (show w2.heap.size ≤ w3.heap.size from hb3.size); have HQ3 := Lib.hid (((HQ2.out.step hb3).step n3).and (((bgEL (hE3.monoK (base' := gF + 1) (by have := HZ2.out.2; omega))).step n3).and (((bgApt (hS3.apt (Nat.le_refl _) (fun x hx => HSB.out _ (by rw [← he3]; exact List.mem_map_of_mem hx))) (Nat.le_refl _)).step n3).and (bgDuo (Duo.fresh w3 w3.heap.size rfl (.int .u64 t.f) (.slice A3 t.l.length c3) 34))))); have HL3 := Lib.hid hl3; have HE3 := Lib.hid he3; clear hl3 he3 hE3 hS3 hb3 n3))
    | (go_at_call 21; go_loud ((with_reducible refine (HD1.out _ _ _ HQ3.out.h.1.2.rb.pre).mono ?_); rintro e4 w4 ⟨A4, c4, rfl, ⟨⟨es4, r4, he4, hl4, hE4, hS4⟩, hb4⟩⟩; have n4 := (below_alloc1 (Below.refl w4.heap.size w4) (Nat.le_refl _) (.cells #[.int .u64 t.f, .slice A4 t.l.length c4] 34)); have HZ4 := Lib.hid (show w3.heap.size ≤ w4.heap.size from (by have := hb4.size; rw [asz] at this; exact Nat.le_of_succ_le this)); have HQ4 := Lib.hid (((HQ3.out.step hb4).step n4).and (((bgEL (hE4.monoK (base' := gF + 1) (by have := HZ2.out.2; have := HZ3.out; rw [asz]; omega))).step n4).and (((bgApt (((hS4.apt (Nat.le_refl _) (fun x hx => HSB.out _ (by rw [← he4]; exact List.mem_map_of_mem hx)))).mono (lo' := w3.heap.size) (by rw [asz]; exact Nat.le_succ _) (Nat.le_refl _)) (Nat.le_refl _)).step n4).and (bgDuo (Duo.fresh w4 w4.heap.size rfl (.int .u64 t.f) (.slice A4 t.l.length c4) 34))))); have HL4 := Lib.hid hl4; have HE4 := Lib.hid he4; clear hl4 he4 hE4 hS4 hb4 n4))
    | (go_at_call 24; go_loud ((with_reducible refine (HD2.out _ _ _ HQ4.out.h.1.1.2.rb.pre).mono ?_); rintro e5 w5 ⟨a5, rfl, hn5, hk5⟩; have n5 := (below_alloc1 (Below.refl w5.heap.size w5) (Nat.le_refl _) (.cells #[.int .u8 v.k, .slice a5.KA v.K.length a5.kc, .slice a5.VA v.V.length a5.vc] 26)); have HZ5 := Lib.hid (show w4.heap.size ≤ w5.heap.size from (by have := hn5.below.size; rw [asz] at this; exact Nat.le_of_succ_le this)); have HQ5 := Lib.hid (((HQ4.out.step hn5.below).step n5).and (((bgSep ((hn5.sep hk5).mono (base' := gF + 1) (by have := HZ2.out.2; have := HZ3.out; have := HZ4.out; rw [asz]; omega))).step n5).and (((bgApt (((hn5.sep hk5).apt (Nat.le_refl _) (fun x hx => by obtain rfl := List.mem_singleton.1 hx; exact HSV.out)).mono (lo' := w4.heap.size) (by rw [asz]; exact Nat.le_succ _) (Nat.le_refl _)) (Nat.le_refl _)).step n5).and (bgTrio (Trio.fresh w5 w5.heap.size rfl (.int .u8 v.k) (.slice a5.KA v.K.length a5.kc) (.slice a5.VA v.V.length a5.vc) 26))))); clear hn5 hk5 n5))
    | (go_at_call 24; go_loud ((with_reducible refine (HD2.out _ _ _ HQ5.out.h.1.1.1.2.rb.pre).mono ?_); rintro e6 w6 ⟨a6, rfl, hn6, hk6⟩; have n6 := (below_alloc1 (Below.refl w6.heap.size w6) (Nat.le_refl _) (.cells #[.int .u8 v.k, .slice a6.KA v.K.length a6.kc, .slice a6.VA v.V.length a6.vc] 26)); have HZ6 := Lib.hid (show w5.heap.size ≤ w6.heap.size from (by have := hn6.below.size; rw [asz] at this; exact Nat.le_of_succ_le this)); have HQ6 := Lib.hid (((HQ5.out.step hn6.below).step n6).and (((bgSep ((hn6.sep hk6).mono (base' := gF + 1) (by have := HZ2.out.2; have := HZ3.out; have := HZ4.out; have := HZ5.out; rw [asz]; omega))).step n6).and (((bgApt (((hn6.sep hk6).apt (Nat.le_refl _) (fun x hx => by obtain rfl := List.mem_singleton.1 hx; exact HSV.out)).mono (lo' := w5.heap.size) (by rw [asz]; exact Nat.le_succ _) (Nat.le_refl _)) (Nat.le_refl _)).step n6).and (bgTrio (Trio.fresh w6 w6.heap.size rfl (.int .u8 v.k) (.slice a6.KA v.K.length a6.kc) (.slice a6.VA v.V.length a6.vc) 26))))); clear hn6 hk6 n6; obtain ⟨⟨⟨⟨⟨⟨qB, qP, qE, qD⟩, qF⟩, qX, qAX, qDX⟩, qY, qAY, qDY⟩, qU, qAU, qTU⟩, qV, qAV, qTV⟩ := HQ6.out.h; have x0 := qDX.c0; have x1 := qDX.c1; have y0 := qDY.c0; have y1 := qDY.c1; have u0 := qTU.c0; have u1 := qTU.c1; have u2 := qTU.c2; have v0 := qTV.c0; have v1 := qTV.c1; have v2 := qTV.c2; have m1 := qDX.lt; have m2 := qDY.lt; have m3 := qTU.lt; have m4 := qTV.lt; clear qB qP qE qD qF qX qAX qDX qY qAY qDY qU qAU qTU qV qAV qTV))
    | (go_at_call 26; go_loud ((with_reducible refine (sameB_calls t.f A3 A4 es3 es4 _ _ c3 c4 HL3.out HL3.out _ HQ6.out.h.1.1.1.2.1.reads HQ6.out.h.1.1.2.1.reads (HE3.out.trans HE4.out.symm) (Nat.le_trans HLN.out (by decide))).mono ?_); rintro e7 w7 ⟨rfl, hb7⟩; have HQ7 := Lib.hid (HQ6.out.step hb7); clear hb7; obtain ⟨⟨⟨⟨⟨⟨qB, qP, qE, qD⟩, qF⟩, qX, qAX, qDX⟩, qY, qAY, qDY⟩, qU, qAU, qTU⟩, qV, qAV, qTV⟩ := HQ7.out.h; have x0 := qDX.c0; have x1 := qDX.c1; have y0 := qDY.c0; have y1 := qDY.c1; have u0 := qTU.c0; have u1 := qTU.c1; have u2 := qTU.c2; have v0 := qTV.c0; have v1 := qTV.c1; have v2 := qTV.c2; have m1 := qDX.lt; have m2 := qDY.lt; have m3 := qTU.lt; have m4 := qTV.lt; clear qB qP qE qD qF qX qAX qDX qY qAY qDY qU qAU qTU qV qAV qTV))
    | (go_at_call 27; go_loud ((with_reducible refine (sameE_calls v a5 a6 _ _ _ _ rfl rfl rfl rfl _ (HQ7.out.h.1.2.1.ok1 hk) (HQ7.out.h.2.1.ok1 hk)).mono ?_); rintro e8 w8 ⟨rfl, hb8⟩; have HQ8 := Lib.hid (HQ7.out.step hb8); clear hb8))
    | (go_at_call 28; go_loud ((with_reducible refine (kept_calls (some ⟨gF, 0, none⟩) A0 _ c0 P _ HQ8.out.h.1.1.1.1.2.rb HQ8.out.h.1.1.1.1.1.2.1 _ rfl hl1).mono ?_); rintro e9 w9 ⟨rfl, hd9⟩; have HQ9 := Lib.hid (HQ8.out.step (hd9.below _)); clear hd9 HQ8 HQ7 HQ6 HQ5 HQ4 HQ3 HQ2 HQ1; obtain ⟨⟨⟨⟨⟨⟨qB, qP, qE, qD⟩, qF⟩, qX, qAX, qDX⟩, qY, qAY, qDY⟩, qU, qAU, qTU⟩, qV, qAV, qTV⟩ := HQ9.out.h; have x0 := qDX.c0; have x1 := qDX.c1; have y0 := qDY.c0; have y1 := qDY.c1; have u0 := qTU.c0; have u1 := qTU.c1; have u2 := qTU.c2; have v0 := qTV.c0; have v1 := qTV.c1; have v2 := qTV.c2; have m1 := qDX.lt; have m2 := qDY.lt; have m3 := qTU.lt; have m4 := qTV.lt; clear qB qP qE qD qF qX qAX qDX qY qAY qDY qU qAU qTU qV qAV qTV)))
  obtain ⟨Q, hQ, HQ⟩ := HQ9.out.name
  have HQ := Lib.hid HQ
  have HQE := Lib.hid hQ
  have HBW := Lib.hid (HQ9.out.h)
  clear hQ HQ9
  go_cut [15, 16] from 92 to 95 (fun s15 s16 wx => ∃ (b15 b16 : Nat) (Ad : Option Addr) (cd : Nat) (ds : List EnX) (ad : EnA), s15 = .pointer (some ⟨b15, 0, none⟩) ∧ s16 = .pointer (some ⟨b16, 0, none⟩) ∧ gF + 1 ≤ b15 ∧ gF + 1 ≤ b16 ∧ ensOf ds = t.l ∧ Mv Bl (fun a => Q a ∧ Duo a b15 (.int .u64 t.f) (.slice Ad t.l.length cd) ∧ Trio a b16 (.int .u8 v.k) (.slice ad.KA v.K.length ad.kc) (.slice ad.VA v.V.length ad.vc) ∧ EL a (gF + 1) (.slice Ad t.l.length cd) t.l.length ds ∧ OB a (gF + 1) 5 (.slice ad.KA v.K.length ad.kc) v.K ∧ OB a (gF + 1) 5 (.slice ad.VA v.V.length ad.vc) v.V) wx)
  case first =>
    have HX := Lib.hid HBW.out.1.1.1.2.1.reads
    have HU := Lib.hid (HBW.out.1.2.1.ok1 hk)
    have HDX := Lib.hid HBW.out.1.1.1.2.2.2
    have HTU := Lib.hid HBW.out.1.2.2.2
    have HG1 := Lib.hid (show gF + 1 ≤ w9.heap.size by have := HZ2.out.2; have := HZ3.out; omega)
    have HSM : Hid (SmallEs es3) := Lib.hid fun x hx => by
      have := HSB.out x.1 (by rw [← HE3.out]; exact List.mem_map_of_mem hx)
      omega
    clear HZ2 HZ3 HZ4 HZ5 HZ6 HQE HBW HSB HSS HNN HD1 HD2 HE4 HL4 y0 y1 v0 v1 v2 hee htt hnl m2 m4
    refine wp_region_held_drew (S := fun w' => Duo w' w3.heap.size (.int .u64 t.f) (.slice A3 t.l.length c3) ∧ Trio w' w5.heap.size (.int .u8 v.k) (.slice a5.KA v.K.length a5.kc) (.slice a5.VA v.V.length a5.vc)) (by kernel_rfl) ⟨HDX.out.new (below_drew _ _), HTU.out.new (below_drew _ _)⟩ (fun hHeld => ?_)
    have B0 := below_drew w9.heap.size w9
    generalize w9.drew = wd at B0 hHeld ⊢
    refine wpAnyH_take (i := 0) (v := .agg #[.int .u64 t.f, .slice A3 t.l.length c3]) rfl (by kernel_rfl) (by kernel_rfl) (by kernel_rfl) (fun _ _ _ h => h) (Or.inl ⟨by rfl, fun w hS => by have h0 := hS.1.c0; have h1 := hS.1.c1; go_simp⟩) (by assumption) ?_
    try simp only [Act.put, List.getElem_toArray, List.getElem_cons_succ, List.getElem_cons_zero, List.setIfInBounds_toArray, List.set_cons_zero, List.set_cons_succ]
    refine wpAnyH_take (i := 2) (v := .agg #[.int .u8 v.k, .slice a5.KA v.K.length a5.kc, .slice a5.VA v.V.length a5.vc]) rfl (by kernel_rfl) (by kernel_rfl) (by kernel_rfl) (fun _ _ _ h => h) (Or.inl ⟨by rfl, fun w hS => by have h0 := hS.2.c0; have h1 := hS.2.c1; have h2 := hS.2.c2; go_simp⟩) (by assumption) ?_
    try simp only [Act.put, List.getElem_toArray, List.getElem_cons_succ, List.getElem_cons_zero, List.setIfInBounds_toArray, List.set_cons_zero, List.set_cons_succ]
    refine wpAnyH_ready (rs := [1, 4, 5]) (by kernel_rfl) (by simp) ?_
    refine AllReadyH.cons rfl (fun K hK => ?_) (AllReadyH.cons rfl (fun K hK => ?_) (AllReadyH.cons rfl (fun K hK => ?_) (AllReadyH.nil)))
    · skip
      go_simp
      (go_at_call 17; (with_reducible refine (twinB_calls t.f A3 es3 t.l.length c3 _ (HX.out.new B0) HL3.out (by have := HLN.out; omega) HSM.out).mono ?_); rintro e10 w10 ⟨A10, c10, ds10, rfl, hE10, he10, hb10⟩)
      dsimp only
      have m10 : gF + 1 ≤ wd.heap.size := Nat.le_trans HG1.out B0.size
      have B_1 := below_then B0 hb10
      have E_1 := Below.refl w10.heap.size w10
      refine hK.out _ _ ⟨hHeld.1.new hb10, hHeld.2.new hb10⟩ (fun H_1 => ?_)
      clear hK K
      try simp only [Act.put, List.getElem_toArray, List.getElem_cons_succ, List.getElem_cons_zero, List.setIfInBounds_toArray, List.set_cons_zero, List.set_cons_succ]
      refine wpAnyH_ready (rs := [3, 4, 5]) (by kernel_rfl) (by simp) ?_
      refine AllReadyH.cons rfl (fun K hK => ?_) (AllReadyH.cons rfl (fun K hK => ?_) (AllReadyH.cons rfl (fun K hK => ?_) (AllReadyH.nil)))
      · skip
        go_simp
        (go_at_call 23; (with_reducible refine (twinEntry_calls v a5 _ _ rfl rfl _ (HU.out.new B_1) (by have := HSV.out.1; omega) (by have := HSV.out.2; omega)).mono ?_); rintro e11 w11 ⟨a11, rfl, hn11⟩)
        dsimp only
        have m11 : gF + 1 ≤ w10.heap.size := Nat.le_trans HG1.out B_1.size
        have B_2 := below_then B_1 hn11.below
        have E_2 := below_then E_1 hn11.below
        have N_2 := Below.refl w11.heap.size w11
        refine hK.out _ _ ⟨H_1.1.new hn11.below, H_1.2.new hn11.below⟩ (fun H_2 => ?_)
        clear hK K
        try simp only [Act.put, List.getElem_toArray, List.getElem_cons_succ, List.getElem_cons_zero, List.setIfInBounds_toArray, List.set_cons_zero, List.set_cons_succ]
        refine wpAnyH_ready (rs := [4, 5]) (by kernel_rfl) (by simp) ?_
        refine AllReadyH.cons rfl (fun K hK => ?_) (AllReadyH.cons rfl (fun K hK => ?_) (AllReadyH.nil))
        · skip
          go_simp
          have l15_3 : w9.heap.size ≤ (w11.heap.size) := by have := B_2.size; omega
          have e15_3 : (w11.heap.size) < wd.heap.size ∨ w10.heap.size ≤ (w11.heap.size) := .inr (by have := E_2.size; omega)
          have d15_3 : (w11.heap.size) < w10.heap.size ∨ w11.heap.size ≤ (w11.heap.size) := .inr (by have := N_2.size; omega)
          have B_3 := belowA B_2 (.cells #[.int .u64 0, .slice none 0 0] 34)
          have q15_3 := Duo.fresh w11 (w11.heap.size) rfl (.int .u64 0) (.slice none 0 0) 34
          have E_3 := belowA E_2 (.cells #[.int .u64 0, .slice none 0 0] 34)
          have N_3 := belowA N_2 (.cells #[.int .u64 0, .slice none 0 0] 34)
          refine hK.out _ _ ⟨H_2.1.new (below_alloc1 (Below.refl _ _) (Nat.le_refl _) (.cells #[.int .u64 0, .slice none 0 0] 34)), H_2.2.new (below_alloc1 (Below.refl _ _) (Nat.le_refl _) (.cells #[.int .u64 0, .slice none 0 0] 34))⟩ (fun H_3 => ?_)
          clear hK K
          try simp only [Act.put, List.getElem_toArray, List.getElem_cons_succ, List.getElem_cons_zero, List.setIfInBounds_toArray, List.set_cons_zero, List.set_cons_succ]
          refine wpAnyH_ready (rs := [5]) (by kernel_rfl) (by simp) ?_
          refine AllReadyH.cons rfl (fun K hK => ?_) (AllReadyH.nil)
          · skip
            go_simp
            have l16_4 : w9.heap.size ≤ (w11.heap.size + 1) := by have := B_3.size; rw [asz] at this; omega
            have e16_4 : (w11.heap.size + 1) < wd.heap.size ∨ w10.heap.size ≤ (w11.heap.size + 1) := .inr (by have := E_3.size; rw [asz] at this; omega)
            have d16_4 : (w11.heap.size + 1) < w10.heap.size ∨ w11.heap.size ≤ (w11.heap.size + 1) := .inr (by have := N_3.size; rw [asz] at this; omega)
            have ne_4 : (w11.heap.size) ≠ (w11.heap.size + 1) := by have := q15_3.lt; rw [asz] at this; omega
            have B_4 := belowA B_3 (.cells #[.int .u8 0, .slice none 0 0, .slice none 0 0] 26)
            have q16_4 := Trio.fresh (w11.alloc (.cells #[.int .u64 0, .slice none 0 0] 34)) (w11.heap.size + 1) (asz _ _) (.int .u8 0) (.slice none 0 0) (.slice none 0 0) 26
            have q15_4 := q15_3.new (below_alloc1 (Below.refl _ _) (Nat.le_refl _) (.cells #[.int .u8 0, .slice none 0 0, .slice none 0 0] 26))
            have E_4 := belowA E_3 (.cells #[.int .u8 0, .slice none 0 0, .slice none 0 0] 26)
            have N_4 := belowA N_3 (.cells #[.int .u8 0, .slice none 0 0, .slice none 0 0] 26)
            refine hK.out _ _ ⟨H_3.1.new (below_alloc1 (Below.refl _ _) (Nat.le_refl _) (.cells #[.int .u8 0, .slice none 0 0, .slice none 0 0] 26)), H_3.2.new (below_alloc1 (Below.refl _ _) (Nat.le_refl _) (.cells #[.int .u8 0, .slice none 0 0, .slice none 0 0] 26))⟩ (fun H_4 => ?_)
            clear hK K
            try simp only [Act.put, List.getElem_toArray, List.getElem_cons_succ, List.getElem_cons_zero, List.setIfInBounds_toArray, List.set_cons_zero, List.set_cons_succ]
            generalize ((w11.alloc (.cells #[.int .u64 0, .slice none 0 0] 34)).alloc (.cells #[.int .u8 0, .slice none 0 0, .slice none 0 0] 26)) = X at B_4 E_4 H_4 N_4 q15_4 q16_4 ⊢
            refine wpAnyH_ready (rs := [6]) (by kernel_rfl) (by simp) ?_
            refine AllReadyH.cons rfl (fun K hK => ?_) (AllReadyH.nil)
            · skip
              have s0 := q15_4.c0; have t0 := q15_4.fz 0
              have s1 := q15_4.c1; have t1 := q15_4.fz 1
              go_simp
              have g7_5 : w3.heap.size ≠ (w11.heap.size) := by have := HDX.out.lt; omega
              have g8_5 : w5.heap.size ≠ (w11.heap.size) := by have := HTU.out.lt; omega
              refine hK.out _ _ ⟨(H_4.1.other g7_5).other g7_5, (H_4.2.other g8_5).other g8_5⟩ (fun H_5 => ?_)
              clear hK K
              try simp only [Act.put, List.getElem_toArray, List.getElem_cons_succ, List.getElem_cons_zero, List.setIfInBounds_toArray, List.set_cons_zero, List.set_cons_succ]
              refine wpAnyH_ready (rs := [7]) (by kernel_rfl) (by simp) ?_
              refine AllReadyH.cons rfl (fun K hK => ?_) (AllReadyH.nil)
              · skip
                have P := (q16_4.other (g := (w11.heap.size)) (j := 0) (u := .int .u64 t.f) (Ne.symm ne_4)).other (g := (w11.heap.size)) (j := 1) (u := .slice A10 t.l.length c10) (Ne.symm ne_4)
                have s0 := P.c0; have t0 := P.fz 0
                have s1 := P.c1; have t1 := P.fz 1
                have s2 := P.c2; have t2 := P.fz 2
                go_simp
                have g7_6 : w3.heap.size ≠ (w11.heap.size + 1) := by have := HDX.out.lt; omega
                have g8_6 : w5.heap.size ≠ (w11.heap.size + 1) := by have := HTU.out.lt; omega
                refine hK.out _ _ ⟨((H_5.1.other g7_6).other g7_6).other g7_6, ((H_5.2.other g8_6).other g8_6).other g8_6⟩ (fun H_6 => ?_)
                clear hK K
                try simp only [Act.put, List.getElem_toArray, List.getElem_cons_succ, List.getElem_cons_zero, List.setIfInBounds_toArray, List.set_cons_zero, List.set_cons_succ]
                refine wpAnyH_done (by kernel_rfl) ?_ _
                go_wp2_with fail
                go_meet
                exact ⟨_, _, A10, c10, ds10, a11, rfl, rfl, Nat.le_trans HG1.out l15_3, Nat.le_trans HG1.out l16_4, he10.trans HE3.out, r10_end HQ.out B_4 q15_4 q16_4 hE10 E_4 hn11.K hn11.V N_4 ne_4 l15_3 l16_4 e15_3 e16_4 d15_3 d16_4 m10 m11⟩
        · skip
          go_simp
          have l16_7 : w9.heap.size ≤ (w11.heap.size) := by have := B_2.size; omega
          have e16_7 : (w11.heap.size) < wd.heap.size ∨ w10.heap.size ≤ (w11.heap.size) := .inr (by have := E_2.size; omega)
          have d16_7 : (w11.heap.size) < w10.heap.size ∨ w11.heap.size ≤ (w11.heap.size) := .inr (by have := N_2.size; omega)
          have B_7 := belowA B_2 (.cells #[.int .u8 0, .slice none 0 0, .slice none 0 0] 26)
          have q16_7 := Trio.fresh w11 (w11.heap.size) rfl (.int .u8 0) (.slice none 0 0) (.slice none 0 0) 26
          have E_7 := belowA E_2 (.cells #[.int .u8 0, .slice none 0 0, .slice none 0 0] 26)
          have N_7 := belowA N_2 (.cells #[.int .u8 0, .slice none 0 0, .slice none 0 0] 26)
          refine hK.out _ _ ⟨H_2.1.new (below_alloc1 (Below.refl _ _) (Nat.le_refl _) (.cells #[.int .u8 0, .slice none 0 0, .slice none 0 0] 26)), H_2.2.new (below_alloc1 (Below.refl _ _) (Nat.le_refl _) (.cells #[.int .u8 0, .slice none 0 0, .slice none 0 0] 26))⟩ (fun H_7 => ?_)
          clear hK K
          try simp only [Act.put, List.getElem_toArray, List.getElem_cons_succ, List.getElem_cons_zero, List.setIfInBounds_toArray, List.set_cons_zero, List.set_cons_succ]
          refine wpAnyH_ready (rs := [4]) (by kernel_rfl) (by simp) ?_
          refine AllReadyH.cons rfl (fun K hK => ?_) (AllReadyH.nil)
          · skip
            go_simp
            have l15_8 : w9.heap.size ≤ (w11.heap.size + 1) := by have := B_7.size; rw [asz] at this; omega
            have e15_8 : (w11.heap.size + 1) < wd.heap.size ∨ w10.heap.size ≤ (w11.heap.size + 1) := .inr (by have := E_7.size; rw [asz] at this; omega)
            have d15_8 : (w11.heap.size + 1) < w10.heap.size ∨ w11.heap.size ≤ (w11.heap.size + 1) := .inr (by have := N_7.size; rw [asz] at this; omega)
            have ne_8 : (w11.heap.size + 1) ≠ (w11.heap.size) := by have := q16_7.lt; rw [asz] at this; omega
            have B_8 := belowA B_7 (.cells #[.int .u64 0, .slice none 0 0] 34)
            have q15_8 := Duo.fresh (w11.alloc (.cells #[.int .u8 0, .slice none 0 0, .slice none 0 0] 26)) (w11.heap.size + 1) (asz _ _) (.int .u64 0) (.slice none 0 0) 34
            have q16_8 := q16_7.new (below_alloc1 (Below.refl _ _) (Nat.le_refl _) (.cells #[.int .u64 0, .slice none 0 0] 34))
            have E_8 := belowA E_7 (.cells #[.int .u64 0, .slice none 0 0] 34)
            have N_8 := belowA N_7 (.cells #[.int .u64 0, .slice none 0 0] 34)
            refine hK.out _ _ ⟨H_7.1.new (below_alloc1 (Below.refl _ _) (Nat.le_refl _) (.cells #[.int .u64 0, .slice none 0 0] 34)), H_7.2.new (below_alloc1 (Below.refl _ _) (Nat.le_refl _) (.cells #[.int .u64 0, .slice none 0 0] 34))⟩ (fun H_8 => ?_)
            clear hK K
            try simp only [Act.put, List.getElem_toArray, List.getElem_cons_succ, List.getElem_cons_zero, List.setIfInBounds_toArray, List.set_cons_zero, List.set_cons_succ]
            generalize ((w11.alloc (.cells #[.int .u8 0, .slice none 0 0, .slice none 0 0] 26)).alloc (.cells #[.int .u64 0, .slice none 0 0] 34)) = X at B_8 E_8 H_8 N_8 q15_8 q16_8 ⊢
            refine wpAnyH_ready (rs := [6]) (by kernel_rfl) (by simp) ?_
            refine AllReadyH.cons rfl (fun K hK => ?_) (AllReadyH.nil)
            · skip
              have s0 := q15_8.c0; have t0 := q15_8.fz 0
              have s1 := q15_8.c1; have t1 := q15_8.fz 1
              go_simp
              have g7_9 : w3.heap.size ≠ (w11.heap.size + 1) := by have := HDX.out.lt; omega
              have g8_9 : w5.heap.size ≠ (w11.heap.size + 1) := by have := HTU.out.lt; omega
              refine hK.out _ _ ⟨(H_8.1.other g7_9).other g7_9, (H_8.2.other g8_9).other g8_9⟩ (fun H_9 => ?_)
              clear hK K
              try simp only [Act.put, List.getElem_toArray, List.getElem_cons_succ, List.getElem_cons_zero, List.setIfInBounds_toArray, List.set_cons_zero, List.set_cons_succ]
              refine wpAnyH_ready (rs := [7]) (by kernel_rfl) (by simp) ?_
              refine AllReadyH.cons rfl (fun K hK => ?_) (AllReadyH.nil)
              · skip
                have P := (q16_8.other (g := (w11.heap.size + 1)) (j := 0) (u := .int .u64 t.f) (Ne.symm ne_8)).other (g := (w11.heap.size + 1)) (j := 1) (u := .slice A10 t.l.length c10) (Ne.symm ne_8)
                have s0 := P.c0; have t0 := P.fz 0
                have s1 := P.c1; have t1 := P.fz 1
                have s2 := P.c2; have t2 := P.fz 2
                go_simp
                have g7_10 : w3.heap.size ≠ (w11.heap.size) := by have := HDX.out.lt; omega
                have g8_10 : w5.heap.size ≠ (w11.heap.size) := by have := HTU.out.lt; omega
                refine hK.out _ _ ⟨((H_9.1.other g7_10).other g7_10).other g7_10, ((H_9.2.other g8_10).other g8_10).other g8_10⟩ (fun H_10 => ?_)
                clear hK K
                try simp only [Act.put, List.getElem_toArray, List.getElem_cons_succ, List.getElem_cons_zero, List.setIfInBounds_toArray, List.set_cons_zero, List.set_cons_succ]
                refine wpAnyH_done (by kernel_rfl) ?_ _
                go_wp2_with fail
                go_meet
                exact ⟨_, _, A10, c10, ds10, a11, rfl, rfl, Nat.le_trans HG1.out l15_8, Nat.le_trans HG1.out l16_7, he10.trans HE3.out, r10_end HQ.out B_8 q15_8 q16_8 hE10 E_8 hn11.K hn11.V N_8 ne_8 l15_8 l16_7 e15_8 e16_7 d15_8 d16_7 m10 m11⟩
      · skip
        go_simp
        have l15_11 : w9.heap.size ≤ (w10.heap.size) := by have := B_1.size; omega
        have e15_11 : (w10.heap.size) < wd.heap.size ∨ w10.heap.size ≤ (w10.heap.size) := .inr (by have := E_1.size; omega)
        have B_11 := belowA B_1 (.cells #[.int .u64 0, .slice none 0 0] 34)
        have q15_11 := Duo.fresh w10 (w10.heap.size) rfl (.int .u64 0) (.slice none 0 0) 34
        have E_11 := belowA E_1 (.cells #[.int .u64 0, .slice none 0 0] 34)
        refine hK.out _ _ ⟨H_1.1.new (below_alloc1 (Below.refl _ _) (Nat.le_refl _) (.cells #[.int .u64 0, .slice none 0 0] 34)), H_1.2.new (below_alloc1 (Below.refl _ _) (Nat.le_refl _) (.cells #[.int .u64 0, .slice none 0 0] 34))⟩ (fun H_11 => ?_)
        clear hK K
        try simp only [Act.put, List.getElem_toArray, List.getElem_cons_succ, List.getElem_cons_zero, List.setIfInBounds_toArray, List.set_cons_zero, List.set_cons_succ]
        refine wpAnyH_ready (rs := [3, 5]) (by kernel_rfl) (by simp) ?_
        refine AllReadyH.cons rfl (fun K hK => ?_) (AllReadyH.cons rfl (fun K hK => ?_) (AllReadyH.nil))
        · skip
          go_simp
          (go_at_call 23; (with_reducible refine (twinEntry_calls v a5 _ _ rfl rfl _ (HU.out.new B_11) (by have := HSV.out.1; omega) (by have := HSV.out.2; omega)).mono ?_); rintro e11 w11 ⟨a11, rfl, hn11⟩)
          dsimp only
          have m11 : gF + 1 ≤ (w10.alloc (.cells #[.int .u64 0, .slice none 0 0] 34)).heap.size := Nat.le_trans HG1.out B_11.size
          have B_12 := below_then B_11 hn11.below
          have d15_12 : (w10.heap.size) < (w10.alloc (.cells #[.int .u64 0, .slice none 0 0] 34)).heap.size ∨ w11.heap.size ≤ (w10.heap.size) := .inl q15_11.lt
          have q15_12 := q15_11.new hn11.below
          have E_12 := below_then E_11 hn11.below
          have N_12 := Below.refl w11.heap.size w11
          refine hK.out _ _ ⟨H_11.1.new hn11.below, H_11.2.new hn11.below⟩ (fun H_12 => ?_)
          clear hK K
          try simp only [Act.put, List.getElem_toArray, List.getElem_cons_succ, List.getElem_cons_zero, List.setIfInBounds_toArray, List.set_cons_zero, List.set_cons_succ]
          refine wpAnyH_ready (rs := [5]) (by kernel_rfl) (by simp) ?_
          refine AllReadyH.cons rfl (fun K hK => ?_) (AllReadyH.nil)
          · skip
            go_simp
            have l16_13 : w9.heap.size ≤ (w11.heap.size) := by have := B_12.size; omega
            have e16_13 : (w11.heap.size) < wd.heap.size ∨ w10.heap.size ≤ (w11.heap.size) := .inr (by have := E_12.size; omega)
            have d16_13 : (w11.heap.size) < (w10.alloc (.cells #[.int .u64 0, .slice none 0 0] 34)).heap.size ∨ w11.heap.size ≤ (w11.heap.size) := .inr (by have := N_12.size; omega)
            have ne_13 : (w10.heap.size) ≠ (w11.heap.size) := by have := q15_12.lt; omega
            have B_13 := belowA B_12 (.cells #[.int .u8 0, .slice none 0 0, .slice none 0 0] 26)
            have q16_13 := Trio.fresh w11 (w11.heap.size) rfl (.int .u8 0) (.slice none 0 0) (.slice none 0 0) 26
            have q15_13 := q15_12.new (below_alloc1 (Below.refl _ _) (Nat.le_refl _) (.cells #[.int .u8 0, .slice none 0 0, .slice none 0 0] 26))
            have E_13 := belowA E_12 (.cells #[.int .u8 0, .slice none 0 0, .slice none 0 0] 26)
            have N_13 := belowA N_12 (.cells #[.int .u8 0, .slice none 0 0, .slice none 0 0] 26)
            refine hK.out _ _ ⟨H_12.1.new (below_alloc1 (Below.refl _ _) (Nat.le_refl _) (.cells #[.int .u8 0, .slice none 0 0, .slice none 0 0] 26)), H_12.2.new (below_alloc1 (Below.refl _ _) (Nat.le_refl _) (.cells #[.int .u8 0, .slice none 0 0, .slice none 0 0] 26))⟩ (fun H_13 => ?_)
            clear hK K
            try simp only [Act.put, List.getElem_toArray, List.getElem_cons_succ, List.getElem_cons_zero, List.setIfInBounds_toArray, List.set_cons_zero, List.set_cons_succ]
            generalize (w11.alloc (.cells #[.int .u8 0, .slice none 0 0, .slice none 0 0] 26)) = X at B_13 E_13 H_13 N_13 q15_13 q16_13 ⊢
            refine wpAnyH_ready (rs := [6]) (by kernel_rfl) (by simp) ?_
            refine AllReadyH.cons rfl (fun K hK => ?_) (AllReadyH.nil)
            · skip
              have s0 := q15_13.c0; have t0 := q15_13.fz 0
              have s1 := q15_13.c1; have t1 := q15_13.fz 1
              go_simp
              have g7_14 : w3.heap.size ≠ (w10.heap.size) := by have := HDX.out.lt; omega
              have g8_14 : w5.heap.size ≠ (w10.heap.size) := by have := HTU.out.lt; omega
              refine hK.out _ _ ⟨(H_13.1.other g7_14).other g7_14, (H_13.2.other g8_14).other g8_14⟩ (fun H_14 => ?_)
              clear hK K
              try simp only [Act.put, List.getElem_toArray, List.getElem_cons_succ, List.getElem_cons_zero, List.setIfInBounds_toArray, List.set_cons_zero, List.set_cons_succ]
              refine wpAnyH_ready (rs := [7]) (by kernel_rfl) (by simp) ?_
              refine AllReadyH.cons rfl (fun K hK => ?_) (AllReadyH.nil)
              · skip
                have P := (q16_13.other (g := (w10.heap.size)) (j := 0) (u := .int .u64 t.f) (Ne.symm ne_13)).other (g := (w10.heap.size)) (j := 1) (u := .slice A10 t.l.length c10) (Ne.symm ne_13)
                have s0 := P.c0; have t0 := P.fz 0
                have s1 := P.c1; have t1 := P.fz 1
                have s2 := P.c2; have t2 := P.fz 2
                go_simp
                have g7_15 : w3.heap.size ≠ (w11.heap.size) := by have := HDX.out.lt; omega
                have g8_15 : w5.heap.size ≠ (w11.heap.size) := by have := HTU.out.lt; omega
                refine hK.out _ _ ⟨((H_14.1.other g7_15).other g7_15).other g7_15, ((H_14.2.other g8_15).other g8_15).other g8_15⟩ (fun H_15 => ?_)
                clear hK K
                try simp only [Act.put, List.getElem_toArray, List.getElem_cons_succ, List.getElem_cons_zero, List.setIfInBounds_toArray, List.set_cons_zero, List.set_cons_succ]
                refine wpAnyH_done (by kernel_rfl) ?_ _
                go_wp2_with fail
                go_meet
                exact ⟨_, _, A10, c10, ds10, a11, rfl, rfl, Nat.le_trans HG1.out l15_11, Nat.le_trans HG1.out l16_13, he10.trans HE3.out, r10_end HQ.out B_13 q15_13 q16_13 hE10 E_13 hn11.K hn11.V N_13 ne_13 l15_11 l16_13 e15_11 e16_13 d15_12 d16_13 m10 m11⟩
        · skip
          go_simp
          have l16_16 : w9.heap.size ≤ (w10.heap.size + 1) := by have := B_11.size; rw [asz] at this; omega
          have e16_16 : (w10.heap.size + 1) < wd.heap.size ∨ w10.heap.size ≤ (w10.heap.size + 1) := .inr (by have := E_11.size; rw [asz] at this; omega)
          have ne_16 : (w10.heap.size) ≠ (w10.heap.size + 1) := by have := q15_11.lt; rw [asz] at this; omega
          have B_16 := belowA B_11 (.cells #[.int .u8 0, .slice none 0 0, .slice none 0 0] 26)
          have q16_16 := Trio.fresh (w10.alloc (.cells #[.int .u64 0, .slice none 0 0] 34)) (w10.heap.size + 1) (asz _ _) (.int .u8 0) (.slice none 0 0) (.slice none 0 0) 26
          have q15_16 := q15_11.new (below_alloc1 (Below.refl _ _) (Nat.le_refl _) (.cells #[.int .u8 0, .slice none 0 0, .slice none 0 0] 26))
          have E_16 := belowA E_11 (.cells #[.int .u8 0, .slice none 0 0, .slice none 0 0] 26)
          refine hK.out _ _ ⟨H_11.1.new (below_alloc1 (Below.refl _ _) (Nat.le_refl _) (.cells #[.int .u8 0, .slice none 0 0, .slice none 0 0] 26)), H_11.2.new (below_alloc1 (Below.refl _ _) (Nat.le_refl _) (.cells #[.int .u8 0, .slice none 0 0, .slice none 0 0] 26))⟩ (fun H_16 => ?_)
          clear hK K
          try simp only [Act.put, List.getElem_toArray, List.getElem_cons_succ, List.getElem_cons_zero, List.setIfInBounds_toArray, List.set_cons_zero, List.set_cons_succ]
          refine wpAnyH_ready (rs := [3]) (by kernel_rfl) (by simp) ?_
          refine AllReadyH.cons rfl (fun K hK => ?_) (AllReadyH.nil)
          · skip
            go_simp
            (go_at_call 23; (with_reducible refine (twinEntry_calls v a5 _ _ rfl rfl _ (HU.out.new B_16) (by have := HSV.out.1; omega) (by have := HSV.out.2; omega)).mono ?_); rintro e11 w11 ⟨a11, rfl, hn11⟩)
            dsimp only
            have m11 : gF + 1 ≤ ((w10.alloc (.cells #[.int .u64 0, .slice none 0 0] 34)).alloc (.cells #[.int .u8 0, .slice none 0 0, .slice none 0 0] 26)).heap.size := Nat.le_trans HG1.out B_16.size
            have B_17 := below_then B_16 hn11.below
            have d15_17 : (w10.heap.size) < ((w10.alloc (.cells #[.int .u64 0, .slice none 0 0] 34)).alloc (.cells #[.int .u8 0, .slice none 0 0, .slice none 0 0] 26)).heap.size ∨ w11.heap.size ≤ (w10.heap.size) := .inl q15_16.lt
            have q15_17 := q15_16.new hn11.below
            have d16_17 : (w10.heap.size + 1) < ((w10.alloc (.cells #[.int .u64 0, .slice none 0 0] 34)).alloc (.cells #[.int .u8 0, .slice none 0 0, .slice none 0 0] 26)).heap.size ∨ w11.heap.size ≤ (w10.heap.size + 1) := .inl q16_16.lt
            have q16_17 := q16_16.new hn11.below
            have E_17 := below_then E_16 hn11.below
            have N_17 := Below.refl w11.heap.size w11
            refine hK.out _ _ ⟨H_16.1.new hn11.below, H_16.2.new hn11.below⟩ (fun H_17 => ?_)
            clear hK K
            try simp only [Act.put, List.getElem_toArray, List.getElem_cons_succ, List.getElem_cons_zero, List.setIfInBounds_toArray, List.set_cons_zero, List.set_cons_succ]
            refine wpAnyH_ready (rs := [6]) (by kernel_rfl) (by simp) ?_
            refine AllReadyH.cons rfl (fun K hK => ?_) (AllReadyH.nil)
            · skip
              have s0 := q15_17.c0; have t0 := q15_17.fz 0
              have s1 := q15_17.c1; have t1 := q15_17.fz 1
              go_simp
              have g7_18 : w3.heap.size ≠ (w10.heap.size) := by have := HDX.out.lt; omega
              have g8_18 : w5.heap.size ≠ (w10.heap.size) := by have := HTU.out.lt; omega
              refine hK.out _ _ ⟨(H_17.1.other g7_18).other g7_18, (H_17.2.other g8_18).other g8_18⟩ (fun H_18 => ?_)
              clear hK K
              try simp only [Act.put, List.getElem_toArray, List.getElem_cons_succ, List.getElem_cons_zero, List.setIfInBounds_toArray, List.set_cons_zero, List.set_cons_succ]
              refine wpAnyH_ready (rs := [7]) (by kernel_rfl) (by simp) ?_
              refine AllReadyH.cons rfl (fun K hK => ?_) (AllReadyH.nil)
              · skip
                have P := (q16_17.other (g := (w10.heap.size)) (j := 0) (u := .int .u64 t.f) (Ne.symm ne_16)).other (g := (w10.heap.size)) (j := 1) (u := .slice A10 t.l.length c10) (Ne.symm ne_16)
                have s0 := P.c0; have t0 := P.fz 0
                have s1 := P.c1; have t1 := P.fz 1
                have s2 := P.c2; have t2 := P.fz 2
                go_simp
                have g7_19 : w3.heap.size ≠ (w10.heap.size + 1) := by have := HDX.out.lt; omega
                have g8_19 : w5.heap.size ≠ (w10.heap.size + 1) := by have := HTU.out.lt; omega
                refine hK.out _ _ ⟨((H_18.1.other g7_19).other g7_19).other g7_19, ((H_18.2.other g8_19).other g8_19).other g8_19⟩ (fun H_19 => ?_)
                clear hK K
                try simp only [Act.put, List.getElem_toArray, List.getElem_cons_succ, List.getElem_cons_zero, List.setIfInBounds_toArray, List.set_cons_zero, List.set_cons_succ]
                refine wpAnyH_done (by kernel_rfl) ?_ _
                go_wp2_with fail
                go_meet
                exact ⟨_, _, A10, c10, ds10, a11, rfl, rfl, Nat.le_trans HG1.out l15_11, Nat.le_trans HG1.out l16_16, he10.trans HE3.out, r10_end HQ.out B_17 q15_17 q16_17 hE10 E_17 hn11.K hn11.V N_17 ne_16 l15_11 l16_16 e15_11 e16_16 d15_17 d16_17 m10 m11⟩
      · skip
        go_simp
        have l16_20 : w9.heap.size ≤ (w10.heap.size) := by have := B_1.size; omega
        have e16_20 : (w10.heap.size) < wd.heap.size ∨ w10.heap.size ≤ (w10.heap.size) := .inr (by have := E_1.size; omega)
        have B_20 := belowA B_1 (.cells #[.int .u8 0, .slice none 0 0, .slice none 0 0] 26)
        have q16_20 := Trio.fresh w10 (w10.heap.size) rfl (.int .u8 0) (.slice none 0 0) (.slice none 0 0) 26
        have E_20 := belowA E_1 (.cells #[.int .u8 0, .slice none 0 0, .slice none 0 0] 26)
        refine hK.out _ _ ⟨H_1.1.new (below_alloc1 (Below.refl _ _) (Nat.le_refl _) (.cells #[.int .u8 0, .slice none 0 0, .slice none 0 0] 26)), H_1.2.new (below_alloc1 (Below.refl _ _) (Nat.le_refl _) (.cells #[.int .u8 0, .slice none 0 0, .slice none 0 0] 26))⟩ (fun H_20 => ?_)
        clear hK K
        try simp only [Act.put, List.getElem_toArray, List.getElem_cons_succ, List.getElem_cons_zero, List.setIfInBounds_toArray, List.set_cons_zero, List.set_cons_succ]
        refine wpAnyH_ready (rs := [3, 4]) (by kernel_rfl) (by simp) ?_
        refine AllReadyH.cons rfl (fun K hK => ?_) (AllReadyH.cons rfl (fun K hK => ?_) (AllReadyH.nil))
        · skip
          go_simp
          (go_at_call 23; (with_reducible refine (twinEntry_calls v a5 _ _ rfl rfl _ (HU.out.new B_20) (by have := HSV.out.1; omega) (by have := HSV.out.2; omega)).mono ?_); rintro e11 w11 ⟨a11, rfl, hn11⟩)
          dsimp only
          have m11 : gF + 1 ≤ (w10.alloc (.cells #[.int .u8 0, .slice none 0 0, .slice none 0 0] 26)).heap.size := Nat.le_trans HG1.out B_20.size
          have B_21 := below_then B_20 hn11.below
          have d16_21 : (w10.heap.size) < (w10.alloc (.cells #[.int .u8 0, .slice none 0 0, .slice none 0 0] 26)).heap.size ∨ w11.heap.size ≤ (w10.heap.size) := .inl q16_20.lt
          have q16_21 := q16_20.new hn11.below
          have E_21 := below_then E_20 hn11.below
          have N_21 := Below.refl w11.heap.size w11
          refine hK.out _ _ ⟨H_20.1.new hn11.below, H_20.2.new hn11.below⟩ (fun H_21 => ?_)
          clear hK K
          try simp only [Act.put, List.getElem_toArray, List.getElem_cons_succ, List.getElem_cons_zero, List.setIfInBounds_toArray, List.set_cons_zero, List.set_cons_succ]
          refine wpAnyH_ready (rs := [4]) (by kernel_rfl) (by simp) ?_
          refine AllReadyH.cons rfl (fun K hK => ?_) (AllReadyH.nil)
          · skip
            go_simp
            have l15_22 : w9.heap.size ≤ (w11.heap.size) := by have := B_21.size; omega
            have e15_22 : (w11.heap.size) < wd.heap.size ∨ w10.heap.size ≤ (w11.heap.size) := .inr (by have := E_21.size; omega)
            have d15_22 : (w11.heap.size) < (w10.alloc (.cells #[.int .u8 0, .slice none 0 0, .slice none 0 0] 26)).heap.size ∨ w11.heap.size ≤ (w11.heap.size) := .inr (by have := N_21.size; omega)
            have ne_22 : (w11.heap.size) ≠ (w10.heap.size) := by have := q16_21.lt; omega
            have B_22 := belowA B_21 (.cells #[.int .u64 0, .slice none 0 0] 34)
            have q15_22 := Duo.fresh w11 (w11.heap.size) rfl (.int .u64 0) (.slice none 0 0) 34
            have q16_22 := q16_21.new (below_alloc1 (Below.refl _ _) (Nat.le_refl _) (.cells #[.int .u64 0, .slice none 0 0] 34))
            have E_22 := belowA E_21 (.cells #[.int .u64 0, .slice none 0 0] 34)
            have N_22 := belowA N_21 (.cells #[.int .u64 0, .slice none 0 0] 34)
            refine hK.out _ _ ⟨H_21.1.new (below_alloc1 (Below.refl _ _) (Nat.le_refl _) (.cells #[.int .u64 0, .slice none 0 0] 34)), H_21.2.new (below_alloc1 (Below.refl _ _) (Nat.le_refl _) (.cells #[.int .u64 0, .slice none 0 0] 34))⟩ (fun H_22 => ?_)
            clear hK K
            try simp only [Act.put, List.getElem_toArray, List.getElem_cons_succ, List.getElem_cons_zero, List.setIfInBounds_toArray, List.set_cons_zero, List.set_cons_succ]
            generalize (w11.alloc (.cells #[.int .u64 0, .slice none 0 0] 34)) = X at B_22 E_22 H_22 N_22 q15_22 q16_22 ⊢
            refine wpAnyH_ready (rs := [6]) (by kernel_rfl) (by simp) ?_
            refine AllReadyH.cons rfl (fun K hK => ?_) (AllReadyH.nil)
            · skip
              have s0 := q15_22.c0; have t0 := q15_22.fz 0
              have s1 := q15_22.c1; have t1 := q15_22.fz 1
              go_simp
              have g7_23 : w3.heap.size ≠ (w11.heap.size) := by have := HDX.out.lt; omega
              have g8_23 : w5.heap.size ≠ (w11.heap.size) := by have := HTU.out.lt; omega
              refine hK.out _ _ ⟨(H_22.1.other g7_23).other g7_23, (H_22.2.other g8_23).other g8_23⟩ (fun H_23 => ?_)
              clear hK K
              try simp only [Act.put, List.getElem_toArray, List.getElem_cons_succ, List.getElem_cons_zero, List.setIfInBounds_toArray, List.set_cons_zero, List.set_cons_succ]
              refine wpAnyH_ready (rs := [7]) (by kernel_rfl) (by simp) ?_
              refine AllReadyH.cons rfl (fun K hK => ?_) (AllReadyH.nil)
              · skip
                have P := (q16_22.other (g := (w11.heap.size)) (j := 0) (u := .int .u64 t.f) (Ne.symm ne_22)).other (g := (w11.heap.size)) (j := 1) (u := .slice A10 t.l.length c10) (Ne.symm ne_22)
                have s0 := P.c0; have t0 := P.fz 0
                have s1 := P.c1; have t1 := P.fz 1
                have s2 := P.c2; have t2 := P.fz 2
                go_simp
                have g7_24 : w3.heap.size ≠ (w10.heap.size) := by have := HDX.out.lt; omega
                have g8_24 : w5.heap.size ≠ (w10.heap.size) := by have := HTU.out.lt; omega
                refine hK.out _ _ ⟨((H_23.1.other g7_24).other g7_24).other g7_24, ((H_23.2.other g8_24).other g8_24).other g8_24⟩ (fun H_24 => ?_)
                clear hK K
                try simp only [Act.put, List.getElem_toArray, List.getElem_cons_succ, List.getElem_cons_zero, List.setIfInBounds_toArray, List.set_cons_zero, List.set_cons_succ]
                refine wpAnyH_done (by kernel_rfl) ?_ _
                go_wp2_with fail
                go_meet
                exact ⟨_, _, A10, c10, ds10, a11, rfl, rfl, Nat.le_trans HG1.out l15_22, Nat.le_trans HG1.out l16_20, he10.trans HE3.out, r10_end HQ.out B_22 q15_22 q16_22 hE10 E_22 hn11.K hn11.V N_22 ne_22 l15_22 l16_20 e15_22 e16_20 d15_22 d16_21 m10 m11⟩
        · skip
          go_simp
          have l15_25 : w9.heap.size ≤ (w10.heap.size + 1) := by have := B_20.size; rw [asz] at this; omega
          have e15_25 : (w10.heap.size + 1) < wd.heap.size ∨ w10.heap.size ≤ (w10.heap.size + 1) := .inr (by have := E_20.size; rw [asz] at this; omega)
          have ne_25 : (w10.heap.size + 1) ≠ (w10.heap.size) := by have := q16_20.lt; rw [asz] at this; omega
          have B_25 := belowA B_20 (.cells #[.int .u64 0, .slice none 0 0] 34)
          have q15_25 := Duo.fresh (w10.alloc (.cells #[.int .u8 0, .slice none 0 0, .slice none 0 0] 26)) (w10.heap.size + 1) (asz _ _) (.int .u64 0) (.slice none 0 0) 34
          have q16_25 := q16_20.new (below_alloc1 (Below.refl _ _) (Nat.le_refl _) (.cells #[.int .u64 0, .slice none 0 0] 34))
          have E_25 := belowA E_20 (.cells #[.int .u64 0, .slice none 0 0] 34)
          refine hK.out _ _ ⟨H_20.1.new (below_alloc1 (Below.refl _ _) (Nat.le_refl _) (.cells #[.int .u64 0, .slice none 0 0] 34)), H_20.2.new (below_alloc1 (Below.refl _ _) (Nat.le_refl _) (.cells #[.int .u64 0, .slice none 0 0] 34))⟩ (fun H_25 => ?_)
          clear hK K
          try simp only [Act.put, List.getElem_toArray, List.getElem_cons_succ, List.getElem_cons_zero, List.setIfInBounds_toArray, List.set_cons_zero, List.set_cons_succ]
          refine wpAnyH_ready (rs := [3]) (by kernel_rfl) (by simp) ?_
          refine AllReadyH.cons rfl (fun K hK => ?_) (AllReadyH.nil)
          · skip
            go_simp
            (go_at_call 23; (with_reducible refine (twinEntry_calls v a5 _ _ rfl rfl _ (HU.out.new B_25) (by have := HSV.out.1; omega) (by have := HSV.out.2; omega)).mono ?_); rintro e11 w11 ⟨a11, rfl, hn11⟩)
            dsimp only
            have m11 : gF + 1 ≤ ((w10.alloc (.cells #[.int .u8 0, .slice none 0 0, .slice none 0 0] 26)).alloc (.cells #[.int .u64 0, .slice none 0 0] 34)).heap.size := Nat.le_trans HG1.out B_25.size
            have B_26 := below_then B_25 hn11.below
            have d15_26 : (w10.heap.size + 1) < ((w10.alloc (.cells #[.int .u8 0, .slice none 0 0, .slice none 0 0] 26)).alloc (.cells #[.int .u64 0, .slice none 0 0] 34)).heap.size ∨ w11.heap.size ≤ (w10.heap.size + 1) := .inl q15_25.lt
            have q15_26 := q15_25.new hn11.below
            have d16_26 : (w10.heap.size) < ((w10.alloc (.cells #[.int .u8 0, .slice none 0 0, .slice none 0 0] 26)).alloc (.cells #[.int .u64 0, .slice none 0 0] 34)).heap.size ∨ w11.heap.size ≤ (w10.heap.size) := .inl q16_25.lt
            have q16_26 := q16_25.new hn11.below
            have E_26 := below_then E_25 hn11.below
            have N_26 := Below.refl w11.heap.size w11
            refine hK.out _ _ ⟨H_25.1.new hn11.below, H_25.2.new hn11.below⟩ (fun H_26 => ?_)
            clear hK K
            try simp only [Act.put, List.getElem_toArray, List.getElem_cons_succ, List.getElem_cons_zero, List.setIfInBounds_toArray, List.set_cons_zero, List.set_cons_succ]
            refine wpAnyH_ready (rs := [6]) (by kernel_rfl) (by simp) ?_
            refine AllReadyH.cons rfl (fun K hK => ?_) (AllReadyH.nil)
            · skip
              have s0 := q15_26.c0; have t0 := q15_26.fz 0
              have s1 := q15_26.c1; have t1 := q15_26.fz 1
              go_simp
              have g7_27 : w3.heap.size ≠ (w10.heap.size + 1) := by have := HDX.out.lt; omega
              have g8_27 : w5.heap.size ≠ (w10.heap.size + 1) := by have := HTU.out.lt; omega
              refine hK.out _ _ ⟨(H_26.1.other g7_27).other g7_27, (H_26.2.other g8_27).other g8_27⟩ (fun H_27 => ?_)
              clear hK K
              try simp only [Act.put, List.getElem_toArray, List.getElem_cons_succ, List.getElem_cons_zero, List.setIfInBounds_toArray, List.set_cons_zero, List.set_cons_succ]
              refine wpAnyH_ready (rs := [7]) (by kernel_rfl) (by simp) ?_
              refine AllReadyH.cons rfl (fun K hK => ?_) (AllReadyH.nil)
              · skip
                have P := (q16_26.other (g := (w10.heap.size + 1)) (j := 0) (u := .int .u64 t.f) (Ne.symm ne_25)).other (g := (w10.heap.size + 1)) (j := 1) (u := .slice A10 t.l.length c10) (Ne.symm ne_25)
                have s0 := P.c0; have t0 := P.fz 0
                have s1 := P.c1; have t1 := P.fz 1
                have s2 := P.c2; have t2 := P.fz 2
                go_simp
                have g7_28 : w3.heap.size ≠ (w10.heap.size) := by have := HDX.out.lt; omega
                have g8_28 : w5.heap.size ≠ (w10.heap.size) := by have := HTU.out.lt; omega
                refine hK.out _ _ ⟨((H_27.1.other g7_28).other g7_28).other g7_28, ((H_27.2.other g8_28).other g8_28).other g8_28⟩ (fun H_28 => ?_)
                clear hK K
                try simp only [Act.put, List.getElem_toArray, List.getElem_cons_succ, List.getElem_cons_zero, List.setIfInBounds_toArray, List.set_cons_zero, List.set_cons_succ]
                refine wpAnyH_done (by kernel_rfl) ?_ _
                go_wp2_with fail
                go_meet
                exact ⟨_, _, A10, c10, ds10, a11, rfl, rfl, Nat.le_trans HG1.out l15_25, Nat.le_trans HG1.out l16_20, he10.trans HE3.out, r10_end HQ.out B_26 q15_26 q16_26 hE10 E_26 hn11.K hn11.V N_26 ne_25 l15_25 l16_20 e15_25 e16_20 d15_26 d16_26 m10 m11⟩
    · skip
      go_simp
      have l15_29 : w9.heap.size ≤ (wd.heap.size) := by have := B0.size; omega
      have B_29 := belowA B0 (.cells #[.int .u64 0, .slice none 0 0] 34)
      have q15_29 := Duo.fresh wd (wd.heap.size) rfl (.int .u64 0) (.slice none 0 0) 34
      refine hK.out _ _ ⟨hHeld.1.new (below_alloc1 (Below.refl _ _) (Nat.le_refl _) (.cells #[.int .u64 0, .slice none 0 0] 34)), hHeld.2.new (below_alloc1 (Below.refl _ _) (Nat.le_refl _) (.cells #[.int .u64 0, .slice none 0 0] 34))⟩ (fun H_29 => ?_)
      clear hK K
      try simp only [Act.put, List.getElem_toArray, List.getElem_cons_succ, List.getElem_cons_zero, List.setIfInBounds_toArray, List.set_cons_zero, List.set_cons_succ]
      refine wpAnyH_ready (rs := [1, 5]) (by kernel_rfl) (by simp) ?_
      refine AllReadyH.cons rfl (fun K hK => ?_) (AllReadyH.cons rfl (fun K hK => ?_) (AllReadyH.nil))
      · skip
        go_simp
        (go_at_call 17; (with_reducible refine (twinB_calls t.f A3 es3 t.l.length c3 _ (HX.out.new B_29) HL3.out (by have := HLN.out; omega) HSM.out).mono ?_); rintro e10 w10 ⟨A10, c10, ds10, rfl, hE10, he10, hb10⟩)
        dsimp only
        have m10 : gF + 1 ≤ (wd.alloc (.cells #[.int .u64 0, .slice none 0 0] 34)).heap.size := Nat.le_trans HG1.out B_29.size
        have B_30 := below_then B_29 hb10
        have e15_30 : (wd.heap.size) < (wd.alloc (.cells #[.int .u64 0, .slice none 0 0] 34)).heap.size ∨ w10.heap.size ≤ (wd.heap.size) := .inl q15_29.lt
        have q15_30 := q15_29.new hb10
        have E_30 := Below.refl w10.heap.size w10
        refine hK.out _ _ ⟨H_29.1.new hb10, H_29.2.new hb10⟩ (fun H_30 => ?_)
        clear hK K
        try simp only [Act.put, List.getElem_toArray, List.getElem_cons_succ, List.getElem_cons_zero, List.setIfInBounds_toArray, List.set_cons_zero, List.set_cons_succ]
        refine wpAnyH_ready (rs := [3, 5]) (by kernel_rfl) (by simp) ?_
        refine AllReadyH.cons rfl (fun K hK => ?_) (AllReadyH.cons rfl (fun K hK => ?_) (AllReadyH.nil))
        · skip
          go_simp
          (go_at_call 23; (with_reducible refine (twinEntry_calls v a5 _ _ rfl rfl _ (HU.out.new B_30) (by have := HSV.out.1; omega) (by have := HSV.out.2; omega)).mono ?_); rintro e11 w11 ⟨a11, rfl, hn11⟩)
          dsimp only
          have m11 : gF + 1 ≤ w10.heap.size := Nat.le_trans HG1.out B_30.size
          have B_31 := below_then B_30 hn11.below
          have d15_31 : (wd.heap.size) < w10.heap.size ∨ w11.heap.size ≤ (wd.heap.size) := .inl q15_30.lt
          have q15_31 := q15_30.new hn11.below
          have E_31 := below_then E_30 hn11.below
          have N_31 := Below.refl w11.heap.size w11
          refine hK.out _ _ ⟨H_30.1.new hn11.below, H_30.2.new hn11.below⟩ (fun H_31 => ?_)
          clear hK K
          try simp only [Act.put, List.getElem_toArray, List.getElem_cons_succ, List.getElem_cons_zero, List.setIfInBounds_toArray, List.set_cons_zero, List.set_cons_succ]
          refine wpAnyH_ready (rs := [5]) (by kernel_rfl) (by simp) ?_
          refine AllReadyH.cons rfl (fun K hK => ?_) (AllReadyH.nil)
          · skip
            go_simp
            have l16_32 : w9.heap.size ≤ (w11.heap.size) := by have := B_31.size; omega
            have e16_32 : (w11.heap.size) < (wd.alloc (.cells #[.int .u64 0, .slice none 0 0] 34)).heap.size ∨ w10.heap.size ≤ (w11.heap.size) := .inr (by have := E_31.size; omega)
            have d16_32 : (w11.heap.size) < w10.heap.size ∨ w11.heap.size ≤ (w11.heap.size) := .inr (by have := N_31.size; omega)
            have ne_32 : (wd.heap.size) ≠ (w11.heap.size) := by have := q15_31.lt; omega
            have B_32 := belowA B_31 (.cells #[.int .u8 0, .slice none 0 0, .slice none 0 0] 26)
            have q16_32 := Trio.fresh w11 (w11.heap.size) rfl (.int .u8 0) (.slice none 0 0) (.slice none 0 0) 26
            have q15_32 := q15_31.new (below_alloc1 (Below.refl _ _) (Nat.le_refl _) (.cells #[.int .u8 0, .slice none 0 0, .slice none 0 0] 26))
            have E_32 := belowA E_31 (.cells #[.int .u8 0, .slice none 0 0, .slice none 0 0] 26)
            have N_32 := belowA N_31 (.cells #[.int .u8 0, .slice none 0 0, .slice none 0 0] 26)
            refine hK.out _ _ ⟨H_31.1.new (below_alloc1 (Below.refl _ _) (Nat.le_refl _) (.cells #[.int .u8 0, .slice none 0 0, .slice none 0 0] 26)), H_31.2.new (below_alloc1 (Below.refl _ _) (Nat.le_refl _) (.cells #[.int .u8 0, .slice none 0 0, .slice none 0 0] 26))⟩ (fun H_32 => ?_)
            clear hK K
            try simp only [Act.put, List.getElem_toArray, List.getElem_cons_succ, List.getElem_cons_zero, List.setIfInBounds_toArray, List.set_cons_zero, List.set_cons_succ]
            generalize (w11.alloc (.cells #[.int .u8 0, .slice none 0 0, .slice none 0 0] 26)) = X at B_32 E_32 H_32 N_32 q15_32 q16_32 ⊢
            refine wpAnyH_ready (rs := [6]) (by kernel_rfl) (by simp) ?_
            refine AllReadyH.cons rfl (fun K hK => ?_) (AllReadyH.nil)
            · skip
              have s0 := q15_32.c0; have t0 := q15_32.fz 0
              have s1 := q15_32.c1; have t1 := q15_32.fz 1
              go_simp
              have g7_33 : w3.heap.size ≠ (wd.heap.size) := by have := HDX.out.lt; omega
              have g8_33 : w5.heap.size ≠ (wd.heap.size) := by have := HTU.out.lt; omega
              refine hK.out _ _ ⟨(H_32.1.other g7_33).other g7_33, (H_32.2.other g8_33).other g8_33⟩ (fun H_33 => ?_)
              clear hK K
              try simp only [Act.put, List.getElem_toArray, List.getElem_cons_succ, List.getElem_cons_zero, List.setIfInBounds_toArray, List.set_cons_zero, List.set_cons_succ]
              refine wpAnyH_ready (rs := [7]) (by kernel_rfl) (by simp) ?_
              refine AllReadyH.cons rfl (fun K hK => ?_) (AllReadyH.nil)
              · skip
                have P := (q16_32.other (g := (wd.heap.size)) (j := 0) (u := .int .u64 t.f) (Ne.symm ne_32)).other (g := (wd.heap.size)) (j := 1) (u := .slice A10 t.l.length c10) (Ne.symm ne_32)
                have s0 := P.c0; have t0 := P.fz 0
                have s1 := P.c1; have t1 := P.fz 1
                have s2 := P.c2; have t2 := P.fz 2
                go_simp
                have g7_34 : w3.heap.size ≠ (w11.heap.size) := by have := HDX.out.lt; omega
                have g8_34 : w5.heap.size ≠ (w11.heap.size) := by have := HTU.out.lt; omega
                refine hK.out _ _ ⟨((H_33.1.other g7_34).other g7_34).other g7_34, ((H_33.2.other g8_34).other g8_34).other g8_34⟩ (fun H_34 => ?_)
                clear hK K
                try simp only [Act.put, List.getElem_toArray, List.getElem_cons_succ, List.getElem_cons_zero, List.setIfInBounds_toArray, List.set_cons_zero, List.set_cons_succ]
                refine wpAnyH_done (by kernel_rfl) ?_ _
                go_wp2_with fail
                go_meet
                exact ⟨_, _, A10, c10, ds10, a11, rfl, rfl, Nat.le_trans HG1.out l15_29, Nat.le_trans HG1.out l16_32, he10.trans HE3.out, r10_end HQ.out B_32 q15_32 q16_32 hE10 E_32 hn11.K hn11.V N_32 ne_32 l15_29 l16_32 e15_30 e16_32 d15_31 d16_32 m10 m11⟩
        · skip
          go_simp
          have l16_35 : w9.heap.size ≤ (w10.heap.size) := by have := B_30.size; omega
          have e16_35 : (w10.heap.size) < (wd.alloc (.cells #[.int .u64 0, .slice none 0 0] 34)).heap.size ∨ w10.heap.size ≤ (w10.heap.size) := .inr (by have := E_30.size; omega)
          have ne_35 : (wd.heap.size) ≠ (w10.heap.size) := by have := q15_30.lt; omega
          have B_35 := belowA B_30 (.cells #[.int .u8 0, .slice none 0 0, .slice none 0 0] 26)
          have q16_35 := Trio.fresh w10 (w10.heap.size) rfl (.int .u8 0) (.slice none 0 0) (.slice none 0 0) 26
          have q15_35 := q15_30.new (below_alloc1 (Below.refl _ _) (Nat.le_refl _) (.cells #[.int .u8 0, .slice none 0 0, .slice none 0 0] 26))
          have E_35 := belowA E_30 (.cells #[.int .u8 0, .slice none 0 0, .slice none 0 0] 26)
          refine hK.out _ _ ⟨H_30.1.new (below_alloc1 (Below.refl _ _) (Nat.le_refl _) (.cells #[.int .u8 0, .slice none 0 0, .slice none 0 0] 26)), H_30.2.new (below_alloc1 (Below.refl _ _) (Nat.le_refl _) (.cells #[.int .u8 0, .slice none 0 0, .slice none 0 0] 26))⟩ (fun H_35 => ?_)
          clear hK K
          try simp only [Act.put, List.getElem_toArray, List.getElem_cons_succ, List.getElem_cons_zero, List.setIfInBounds_toArray, List.set_cons_zero, List.set_cons_succ]
          refine wpAnyH_ready (rs := [3]) (by kernel_rfl) (by simp) ?_
          refine AllReadyH.cons rfl (fun K hK => ?_) (AllReadyH.nil)
          · skip
            go_simp
            (go_at_call 23; (with_reducible refine (twinEntry_calls v a5 _ _ rfl rfl _ (HU.out.new B_35) (by have := HSV.out.1; omega) (by have := HSV.out.2; omega)).mono ?_); rintro e11 w11 ⟨a11, rfl, hn11⟩)
            dsimp only
            have m11 : gF + 1 ≤ (w10.alloc (.cells #[.int .u8 0, .slice none 0 0, .slice none 0 0] 26)).heap.size := Nat.le_trans HG1.out B_35.size
            have B_36 := below_then B_35 hn11.below
            have d15_36 : (wd.heap.size) < (w10.alloc (.cells #[.int .u8 0, .slice none 0 0, .slice none 0 0] 26)).heap.size ∨ w11.heap.size ≤ (wd.heap.size) := .inl q15_35.lt
            have q15_36 := q15_35.new hn11.below
            have d16_36 : (w10.heap.size) < (w10.alloc (.cells #[.int .u8 0, .slice none 0 0, .slice none 0 0] 26)).heap.size ∨ w11.heap.size ≤ (w10.heap.size) := .inl q16_35.lt
            have q16_36 := q16_35.new hn11.below
            have E_36 := below_then E_35 hn11.below
            have N_36 := Below.refl w11.heap.size w11
            refine hK.out _ _ ⟨H_35.1.new hn11.below, H_35.2.new hn11.below⟩ (fun H_36 => ?_)
            clear hK K
            try simp only [Act.put, List.getElem_toArray, List.getElem_cons_succ, List.getElem_cons_zero, List.setIfInBounds_toArray, List.set_cons_zero, List.set_cons_succ]
            refine wpAnyH_ready (rs := [6]) (by kernel_rfl) (by simp) ?_
            refine AllReadyH.cons rfl (fun K hK => ?_) (AllReadyH.nil)
            · skip
              have s0 := q15_36.c0; have t0 := q15_36.fz 0
              have s1 := q15_36.c1; have t1 := q15_36.fz 1
              go_simp
              have g7_37 : w3.heap.size ≠ (wd.heap.size) := by have := HDX.out.lt; omega
              have g8_37 : w5.heap.size ≠ (wd.heap.size) := by have := HTU.out.lt; omega
              refine hK.out _ _ ⟨(H_36.1.other g7_37).other g7_37, (H_36.2.other g8_37).other g8_37⟩ (fun H_37 => ?_)
              clear hK K
              try simp only [Act.put, List.getElem_toArray, List.getElem_cons_succ, List.getElem_cons_zero, List.setIfInBounds_toArray, List.set_cons_zero, List.set_cons_succ]
              refine wpAnyH_ready (rs := [7]) (by kernel_rfl) (by simp) ?_
              refine AllReadyH.cons rfl (fun K hK => ?_) (AllReadyH.nil)
              · skip
                have P := (q16_36.other (g := (wd.heap.size)) (j := 0) (u := .int .u64 t.f) (Ne.symm ne_35)).other (g := (wd.heap.size)) (j := 1) (u := .slice A10 t.l.length c10) (Ne.symm ne_35)
                have s0 := P.c0; have t0 := P.fz 0
                have s1 := P.c1; have t1 := P.fz 1
                have s2 := P.c2; have t2 := P.fz 2
                go_simp
                have g7_38 : w3.heap.size ≠ (w10.heap.size) := by have := HDX.out.lt; omega
                have g8_38 : w5.heap.size ≠ (w10.heap.size) := by have := HTU.out.lt; omega
                refine hK.out _ _ ⟨((H_37.1.other g7_38).other g7_38).other g7_38, ((H_37.2.other g8_38).other g8_38).other g8_38⟩ (fun H_38 => ?_)
                clear hK K
                try simp only [Act.put, List.getElem_toArray, List.getElem_cons_succ, List.getElem_cons_zero, List.setIfInBounds_toArray, List.set_cons_zero, List.set_cons_succ]
                refine wpAnyH_done (by kernel_rfl) ?_ _
                go_wp2_with fail
                go_meet
                exact ⟨_, _, A10, c10, ds10, a11, rfl, rfl, Nat.le_trans HG1.out l15_29, Nat.le_trans HG1.out l16_35, he10.trans HE3.out, r10_end HQ.out B_36 q15_36 q16_36 hE10 E_36 hn11.K hn11.V N_36 ne_35 l15_29 l16_35 e15_30 e16_35 d15_36 d16_36 m10 m11⟩
      · skip
        go_simp
        have l16_39 : w9.heap.size ≤ (wd.heap.size + 1) := by have := B_29.size; rw [asz] at this; omega
        have ne_39 : (wd.heap.size) ≠ (wd.heap.size + 1) := by have := q15_29.lt; rw [asz] at this; omega
        have B_39 := belowA B_29 (.cells #[.int .u8 0, .slice none 0 0, .slice none 0 0] 26)
        have q16_39 := Trio.fresh (wd.alloc (.cells #[.int .u64 0, .slice none 0 0] 34)) (wd.heap.size + 1) (asz _ _) (.int .u8 0) (.slice none 0 0) (.slice none 0 0) 26
        have q15_39 := q15_29.new (below_alloc1 (Below.refl _ _) (Nat.le_refl _) (.cells #[.int .u8 0, .slice none 0 0, .slice none 0 0] 26))
        refine hK.out _ _ ⟨H_29.1.new (below_alloc1 (Below.refl _ _) (Nat.le_refl _) (.cells #[.int .u8 0, .slice none 0 0, .slice none 0 0] 26)), H_29.2.new (below_alloc1 (Below.refl _ _) (Nat.le_refl _) (.cells #[.int .u8 0, .slice none 0 0, .slice none 0 0] 26))⟩ (fun H_39 => ?_)
        clear hK K
        try simp only [Act.put, List.getElem_toArray, List.getElem_cons_succ, List.getElem_cons_zero, List.setIfInBounds_toArray, List.set_cons_zero, List.set_cons_succ]
        refine wpAnyH_ready (rs := [1]) (by kernel_rfl) (by simp) ?_
        refine AllReadyH.cons rfl (fun K hK => ?_) (AllReadyH.nil)
        · skip
          go_simp
          (go_at_call 17; (with_reducible refine (twinB_calls t.f A3 es3 t.l.length c3 _ (HX.out.new B_39) HL3.out (by have := HLN.out; omega) HSM.out).mono ?_); rintro e10 w10 ⟨A10, c10, ds10, rfl, hE10, he10, hb10⟩)
          dsimp only
          have m10 : gF + 1 ≤ ((wd.alloc (.cells #[.int .u64 0, .slice none 0 0] 34)).alloc (.cells #[.int .u8 0, .slice none 0 0, .slice none 0 0] 26)).heap.size := Nat.le_trans HG1.out B_39.size
          have B_40 := below_then B_39 hb10
          have e15_40 : (wd.heap.size) < ((wd.alloc (.cells #[.int .u64 0, .slice none 0 0] 34)).alloc (.cells #[.int .u8 0, .slice none 0 0, .slice none 0 0] 26)).heap.size ∨ w10.heap.size ≤ (wd.heap.size) := .inl q15_39.lt
          have q15_40 := q15_39.new hb10
          have e16_40 : (wd.heap.size + 1) < ((wd.alloc (.cells #[.int .u64 0, .slice none 0 0] 34)).alloc (.cells #[.int .u8 0, .slice none 0 0, .slice none 0 0] 26)).heap.size ∨ w10.heap.size ≤ (wd.heap.size + 1) := .inl q16_39.lt
          have q16_40 := q16_39.new hb10
          have E_40 := Below.refl w10.heap.size w10
          refine hK.out _ _ ⟨H_39.1.new hb10, H_39.2.new hb10⟩ (fun H_40 => ?_)
          clear hK K
          try simp only [Act.put, List.getElem_toArray, List.getElem_cons_succ, List.getElem_cons_zero, List.setIfInBounds_toArray, List.set_cons_zero, List.set_cons_succ]
          refine wpAnyH_ready (rs := [3]) (by kernel_rfl) (by simp) ?_
          refine AllReadyH.cons rfl (fun K hK => ?_) (AllReadyH.nil)
          · skip
            go_simp
            (go_at_call 23; (with_reducible refine (twinEntry_calls v a5 _ _ rfl rfl _ (HU.out.new B_40) (by have := HSV.out.1; omega) (by have := HSV.out.2; omega)).mono ?_); rintro e11 w11 ⟨a11, rfl, hn11⟩)
            dsimp only
            have m11 : gF + 1 ≤ w10.heap.size := Nat.le_trans HG1.out B_40.size
            have B_41 := below_then B_40 hn11.below
            have d15_41 : (wd.heap.size) < w10.heap.size ∨ w11.heap.size ≤ (wd.heap.size) := .inl q15_40.lt
            have q15_41 := q15_40.new hn11.below
            have d16_41 : (wd.heap.size + 1) < w10.heap.size ∨ w11.heap.size ≤ (wd.heap.size + 1) := .inl q16_40.lt
            have q16_41 := q16_40.new hn11.below
            have E_41 := below_then E_40 hn11.below
            have N_41 := Below.refl w11.heap.size w11
            refine hK.out _ _ ⟨H_40.1.new hn11.below, H_40.2.new hn11.below⟩ (fun H_41 => ?_)
            clear hK K
            try simp only [Act.put, List.getElem_toArray, List.getElem_cons_succ, List.getElem_cons_zero, List.setIfInBounds_toArray, List.set_cons_zero, List.set_cons_succ]
            refine wpAnyH_ready (rs := [6]) (by kernel_rfl) (by simp) ?_
            refine AllReadyH.cons rfl (fun K hK => ?_) (AllReadyH.nil)
            · skip
              have s0 := q15_41.c0; have t0 := q15_41.fz 0
              have s1 := q15_41.c1; have t1 := q15_41.fz 1
              go_simp
              have g7_42 : w3.heap.size ≠ (wd.heap.size) := by have := HDX.out.lt; omega
              have g8_42 : w5.heap.size ≠ (wd.heap.size) := by have := HTU.out.lt; omega
              refine hK.out _ _ ⟨(H_41.1.other g7_42).other g7_42, (H_41.2.other g8_42).other g8_42⟩ (fun H_42 => ?_)
              clear hK K
              try simp only [Act.put, List.getElem_toArray, List.getElem_cons_succ, List.getElem_cons_zero, List.setIfInBounds_toArray, List.set_cons_zero, List.set_cons_succ]
              refine wpAnyH_ready (rs := [7]) (by kernel_rfl) (by simp) ?_
              refine AllReadyH.cons rfl (fun K hK => ?_) (AllReadyH.nil)
              · skip
                have P := (q16_41.other (g := (wd.heap.size)) (j := 0) (u := .int .u64 t.f) (Ne.symm ne_39)).other (g := (wd.heap.size)) (j := 1) (u := .slice A10 t.l.length c10) (Ne.symm ne_39)
                have s0 := P.c0; have t0 := P.fz 0
                have s1 := P.c1; have t1 := P.fz 1
                have s2 := P.c2; have t2 := P.fz 2
                go_simp
                have g7_43 : w3.heap.size ≠ (wd.heap.size + 1) := by have := HDX.out.lt; omega
                have g8_43 : w5.heap.size ≠ (wd.heap.size + 1) := by have := HTU.out.lt; omega
                refine hK.out _ _ ⟨((H_42.1.other g7_43).other g7_43).other g7_43, ((H_42.2.other g8_43).other g8_43).other g8_43⟩ (fun H_43 => ?_)
                clear hK K
                try simp only [Act.put, List.getElem_toArray, List.getElem_cons_succ, List.getElem_cons_zero, List.setIfInBounds_toArray, List.set_cons_zero, List.set_cons_succ]
                refine wpAnyH_done (by kernel_rfl) ?_ _
                go_wp2_with fail
                go_meet
                exact ⟨_, _, A10, c10, ds10, a11, rfl, rfl, Nat.le_trans HG1.out l15_29, Nat.le_trans HG1.out l16_39, he10.trans HE3.out, r10_end HQ.out B_41 q15_41 q16_41 hE10 E_41 hn11.K hn11.V N_41 ne_39 l15_29 l16_39 e15_40 e16_40 d15_41 d16_41 m10 m11⟩
    · skip
      go_simp
      have l16_44 : w9.heap.size ≤ (wd.heap.size) := by have := B0.size; omega
      have B_44 := belowA B0 (.cells #[.int .u8 0, .slice none 0 0, .slice none 0 0] 26)
      have q16_44 := Trio.fresh wd (wd.heap.size) rfl (.int .u8 0) (.slice none 0 0) (.slice none 0 0) 26
      refine hK.out _ _ ⟨hHeld.1.new (below_alloc1 (Below.refl _ _) (Nat.le_refl _) (.cells #[.int .u8 0, .slice none 0 0, .slice none 0 0] 26)), hHeld.2.new (below_alloc1 (Below.refl _ _) (Nat.le_refl _) (.cells #[.int .u8 0, .slice none 0 0, .slice none 0 0] 26))⟩ (fun H_44 => ?_)
      clear hK K
      try simp only [Act.put, List.getElem_toArray, List.getElem_cons_succ, List.getElem_cons_zero, List.setIfInBounds_toArray, List.set_cons_zero, List.set_cons_succ]
      refine wpAnyH_ready (rs := [1, 4]) (by kernel_rfl) (by simp) ?_
      refine AllReadyH.cons rfl (fun K hK => ?_) (AllReadyH.cons rfl (fun K hK => ?_) (AllReadyH.nil))
      · skip
        go_simp
        (go_at_call 17; (with_reducible refine (twinB_calls t.f A3 es3 t.l.length c3 _ (HX.out.new B_44) HL3.out (by have := HLN.out; omega) HSM.out).mono ?_); rintro e10 w10 ⟨A10, c10, ds10, rfl, hE10, he10, hb10⟩)
        dsimp only
        have m10 : gF + 1 ≤ (wd.alloc (.cells #[.int .u8 0, .slice none 0 0, .slice none 0 0] 26)).heap.size := Nat.le_trans HG1.out B_44.size
        have B_45 := below_then B_44 hb10
        have e16_45 : (wd.heap.size) < (wd.alloc (.cells #[.int .u8 0, .slice none 0 0, .slice none 0 0] 26)).heap.size ∨ w10.heap.size ≤ (wd.heap.size) := .inl q16_44.lt
        have q16_45 := q16_44.new hb10
        have E_45 := Below.refl w10.heap.size w10
        refine hK.out _ _ ⟨H_44.1.new hb10, H_44.2.new hb10⟩ (fun H_45 => ?_)
        clear hK K
        try simp only [Act.put, List.getElem_toArray, List.getElem_cons_succ, List.getElem_cons_zero, List.setIfInBounds_toArray, List.set_cons_zero, List.set_cons_succ]
        refine wpAnyH_ready (rs := [3, 4]) (by kernel_rfl) (by simp) ?_
        refine AllReadyH.cons rfl (fun K hK => ?_) (AllReadyH.cons rfl (fun K hK => ?_) (AllReadyH.nil))
        · skip
          go_simp
          (go_at_call 23; (with_reducible refine (twinEntry_calls v a5 _ _ rfl rfl _ (HU.out.new B_45) (by have := HSV.out.1; omega) (by have := HSV.out.2; omega)).mono ?_); rintro e11 w11 ⟨a11, rfl, hn11⟩)
          dsimp only
          have m11 : gF + 1 ≤ w10.heap.size := Nat.le_trans HG1.out B_45.size
          have B_46 := below_then B_45 hn11.below
          have d16_46 : (wd.heap.size) < w10.heap.size ∨ w11.heap.size ≤ (wd.heap.size) := .inl q16_45.lt
          have q16_46 := q16_45.new hn11.below
          have E_46 := below_then E_45 hn11.below
          have N_46 := Below.refl w11.heap.size w11
          refine hK.out _ _ ⟨H_45.1.new hn11.below, H_45.2.new hn11.below⟩ (fun H_46 => ?_)
          clear hK K
          try simp only [Act.put, List.getElem_toArray, List.getElem_cons_succ, List.getElem_cons_zero, List.setIfInBounds_toArray, List.set_cons_zero, List.set_cons_succ]
          refine wpAnyH_ready (rs := [4]) (by kernel_rfl) (by simp) ?_
          refine AllReadyH.cons rfl (fun K hK => ?_) (AllReadyH.nil)
          · skip
            go_simp
            have l15_47 : w9.heap.size ≤ (w11.heap.size) := by have := B_46.size; omega
            have e15_47 : (w11.heap.size) < (wd.alloc (.cells #[.int .u8 0, .slice none 0 0, .slice none 0 0] 26)).heap.size ∨ w10.heap.size ≤ (w11.heap.size) := .inr (by have := E_46.size; omega)
            have d15_47 : (w11.heap.size) < w10.heap.size ∨ w11.heap.size ≤ (w11.heap.size) := .inr (by have := N_46.size; omega)
            have ne_47 : (w11.heap.size) ≠ (wd.heap.size) := by have := q16_46.lt; omega
            have B_47 := belowA B_46 (.cells #[.int .u64 0, .slice none 0 0] 34)
            have q15_47 := Duo.fresh w11 (w11.heap.size) rfl (.int .u64 0) (.slice none 0 0) 34
            have q16_47 := q16_46.new (below_alloc1 (Below.refl _ _) (Nat.le_refl _) (.cells #[.int .u64 0, .slice none 0 0] 34))
            have E_47 := belowA E_46 (.cells #[.int .u64 0, .slice none 0 0] 34)
            have N_47 := belowA N_46 (.cells #[.int .u64 0, .slice none 0 0] 34)
            refine hK.out _ _ ⟨H_46.1.new (below_alloc1 (Below.refl _ _) (Nat.le_refl _) (.cells #[.int .u64 0, .slice none 0 0] 34)), H_46.2.new (below_alloc1 (Below.refl _ _) (Nat.le_refl _) (.cells #[.int .u64 0, .slice none 0 0] 34))⟩ (fun H_47 => ?_)
            clear hK K
            try simp only [Act.put, List.getElem_toArray, List.getElem_cons_succ, List.getElem_cons_zero, List.setIfInBounds_toArray, List.set_cons_zero, List.set_cons_succ]
            generalize (w11.alloc (.cells #[.int .u64 0, .slice none 0 0] 34)) = X at B_47 E_47 H_47 N_47 q15_47 q16_47 ⊢
            refine wpAnyH_ready (rs := [6]) (by kernel_rfl) (by simp) ?_
            refine AllReadyH.cons rfl (fun K hK => ?_) (AllReadyH.nil)
            · skip
              have s0 := q15_47.c0; have t0 := q15_47.fz 0
              have s1 := q15_47.c1; have t1 := q15_47.fz 1
              go_simp
              have g7_48 : w3.heap.size ≠ (w11.heap.size) := by have := HDX.out.lt; omega
              have g8_48 : w5.heap.size ≠ (w11.heap.size) := by have := HTU.out.lt; omega
              refine hK.out _ _ ⟨(H_47.1.other g7_48).other g7_48, (H_47.2.other g8_48).other g8_48⟩ (fun H_48 => ?_)
              clear hK K
              try simp only [Act.put, List.getElem_toArray, List.getElem_cons_succ, List.getElem_cons_zero, List.setIfInBounds_toArray, List.set_cons_zero, List.set_cons_succ]
              refine wpAnyH_ready (rs := [7]) (by kernel_rfl) (by simp) ?_
              refine AllReadyH.cons rfl (fun K hK => ?_) (AllReadyH.nil)
              · skip
                have P := (q16_47.other (g := (w11.heap.size)) (j := 0) (u := .int .u64 t.f) (Ne.symm ne_47)).other (g := (w11.heap.size)) (j := 1) (u := .slice A10 t.l.length c10) (Ne.symm ne_47)
                have s0 := P.c0; have t0 := P.fz 0
                have s1 := P.c1; have t1 := P.fz 1
                have s2 := P.c2; have t2 := P.fz 2
                go_simp
                have g7_49 : w3.heap.size ≠ (wd.heap.size) := by have := HDX.out.lt; omega
                have g8_49 : w5.heap.size ≠ (wd.heap.size) := by have := HTU.out.lt; omega
                refine hK.out _ _ ⟨((H_48.1.other g7_49).other g7_49).other g7_49, ((H_48.2.other g8_49).other g8_49).other g8_49⟩ (fun H_49 => ?_)
                clear hK K
                try simp only [Act.put, List.getElem_toArray, List.getElem_cons_succ, List.getElem_cons_zero, List.setIfInBounds_toArray, List.set_cons_zero, List.set_cons_succ]
                refine wpAnyH_done (by kernel_rfl) ?_ _
                go_wp2_with fail
                go_meet
                exact ⟨_, _, A10, c10, ds10, a11, rfl, rfl, Nat.le_trans HG1.out l15_47, Nat.le_trans HG1.out l16_44, he10.trans HE3.out, r10_end HQ.out B_47 q15_47 q16_47 hE10 E_47 hn11.K hn11.V N_47 ne_47 l15_47 l16_44 e15_47 e16_45 d15_47 d16_46 m10 m11⟩
        · skip
          go_simp
          have l15_50 : w9.heap.size ≤ (w10.heap.size) := by have := B_45.size; omega
          have e15_50 : (w10.heap.size) < (wd.alloc (.cells #[.int .u8 0, .slice none 0 0, .slice none 0 0] 26)).heap.size ∨ w10.heap.size ≤ (w10.heap.size) := .inr (by have := E_45.size; omega)
          have ne_50 : (w10.heap.size) ≠ (wd.heap.size) := by have := q16_45.lt; omega
          have B_50 := belowA B_45 (.cells #[.int .u64 0, .slice none 0 0] 34)
          have q15_50 := Duo.fresh w10 (w10.heap.size) rfl (.int .u64 0) (.slice none 0 0) 34
          have q16_50 := q16_45.new (below_alloc1 (Below.refl _ _) (Nat.le_refl _) (.cells #[.int .u64 0, .slice none 0 0] 34))
          have E_50 := belowA E_45 (.cells #[.int .u64 0, .slice none 0 0] 34)
          refine hK.out _ _ ⟨H_45.1.new (below_alloc1 (Below.refl _ _) (Nat.le_refl _) (.cells #[.int .u64 0, .slice none 0 0] 34)), H_45.2.new (below_alloc1 (Below.refl _ _) (Nat.le_refl _) (.cells #[.int .u64 0, .slice none 0 0] 34))⟩ (fun H_50 => ?_)
          clear hK K
          try simp only [Act.put, List.getElem_toArray, List.getElem_cons_succ, List.getElem_cons_zero, List.setIfInBounds_toArray, List.set_cons_zero, List.set_cons_succ]
          refine wpAnyH_ready (rs := [3]) (by kernel_rfl) (by simp) ?_
          refine AllReadyH.cons rfl (fun K hK => ?_) (AllReadyH.nil)
          · skip
            go_simp
            (go_at_call 23; (with_reducible refine (twinEntry_calls v a5 _ _ rfl rfl _ (HU.out.new B_50) (by have := HSV.out.1; omega) (by have := HSV.out.2; omega)).mono ?_); rintro e11 w11 ⟨a11, rfl, hn11⟩)
            dsimp only
            have m11 : gF + 1 ≤ (w10.alloc (.cells #[.int .u64 0, .slice none 0 0] 34)).heap.size := Nat.le_trans HG1.out B_50.size
            have B_51 := below_then B_50 hn11.below
            have d15_51 : (w10.heap.size) < (w10.alloc (.cells #[.int .u64 0, .slice none 0 0] 34)).heap.size ∨ w11.heap.size ≤ (w10.heap.size) := .inl q15_50.lt
            have q15_51 := q15_50.new hn11.below
            have d16_51 : (wd.heap.size) < (w10.alloc (.cells #[.int .u64 0, .slice none 0 0] 34)).heap.size ∨ w11.heap.size ≤ (wd.heap.size) := .inl q16_50.lt
            have q16_51 := q16_50.new hn11.below
            have E_51 := below_then E_50 hn11.below
            have N_51 := Below.refl w11.heap.size w11
            refine hK.out _ _ ⟨H_50.1.new hn11.below, H_50.2.new hn11.below⟩ (fun H_51 => ?_)
            clear hK K
            try simp only [Act.put, List.getElem_toArray, List.getElem_cons_succ, List.getElem_cons_zero, List.setIfInBounds_toArray, List.set_cons_zero, List.set_cons_succ]
            refine wpAnyH_ready (rs := [6]) (by kernel_rfl) (by simp) ?_
            refine AllReadyH.cons rfl (fun K hK => ?_) (AllReadyH.nil)
            · skip
              have s0 := q15_51.c0; have t0 := q15_51.fz 0
              have s1 := q15_51.c1; have t1 := q15_51.fz 1
              go_simp
              have g7_52 : w3.heap.size ≠ (w10.heap.size) := by have := HDX.out.lt; omega
              have g8_52 : w5.heap.size ≠ (w10.heap.size) := by have := HTU.out.lt; omega
              refine hK.out _ _ ⟨(H_51.1.other g7_52).other g7_52, (H_51.2.other g8_52).other g8_52⟩ (fun H_52 => ?_)
              clear hK K
              try simp only [Act.put, List.getElem_toArray, List.getElem_cons_succ, List.getElem_cons_zero, List.setIfInBounds_toArray, List.set_cons_zero, List.set_cons_succ]
              refine wpAnyH_ready (rs := [7]) (by kernel_rfl) (by simp) ?_
              refine AllReadyH.cons rfl (fun K hK => ?_) (AllReadyH.nil)
              · skip
                have P := (q16_51.other (g := (w10.heap.size)) (j := 0) (u := .int .u64 t.f) (Ne.symm ne_50)).other (g := (w10.heap.size)) (j := 1) (u := .slice A10 t.l.length c10) (Ne.symm ne_50)
                have s0 := P.c0; have t0 := P.fz 0
                have s1 := P.c1; have t1 := P.fz 1
                have s2 := P.c2; have t2 := P.fz 2
                go_simp
                have g7_53 : w3.heap.size ≠ (wd.heap.size) := by have := HDX.out.lt; omega
                have g8_53 : w5.heap.size ≠ (wd.heap.size) := by have := HTU.out.lt; omega
                refine hK.out _ _ ⟨((H_52.1.other g7_53).other g7_53).other g7_53, ((H_52.2.other g8_53).other g8_53).other g8_53⟩ (fun H_53 => ?_)
                clear hK K
                try simp only [Act.put, List.getElem_toArray, List.getElem_cons_succ, List.getElem_cons_zero, List.setIfInBounds_toArray, List.set_cons_zero, List.set_cons_succ]
                refine wpAnyH_done (by kernel_rfl) ?_ _
                go_wp2_with fail
                go_meet
                exact ⟨_, _, A10, c10, ds10, a11, rfl, rfl, Nat.le_trans HG1.out l15_50, Nat.le_trans HG1.out l16_44, he10.trans HE3.out, r10_end HQ.out B_51 q15_51 q16_51 hE10 E_51 hn11.K hn11.V N_51 ne_50 l15_50 l16_44 e15_50 e16_45 d15_51 d16_51 m10 m11⟩
      · skip
        go_simp
        have l15_54 : w9.heap.size ≤ (wd.heap.size + 1) := by have := B_44.size; rw [asz] at this; omega
        have ne_54 : (wd.heap.size + 1) ≠ (wd.heap.size) := by have := q16_44.lt; rw [asz] at this; omega
        have B_54 := belowA B_44 (.cells #[.int .u64 0, .slice none 0 0] 34)
        have q15_54 := Duo.fresh (wd.alloc (.cells #[.int .u8 0, .slice none 0 0, .slice none 0 0] 26)) (wd.heap.size + 1) (asz _ _) (.int .u64 0) (.slice none 0 0) 34
        have q16_54 := q16_44.new (below_alloc1 (Below.refl _ _) (Nat.le_refl _) (.cells #[.int .u64 0, .slice none 0 0] 34))
        refine hK.out _ _ ⟨H_44.1.new (below_alloc1 (Below.refl _ _) (Nat.le_refl _) (.cells #[.int .u64 0, .slice none 0 0] 34)), H_44.2.new (below_alloc1 (Below.refl _ _) (Nat.le_refl _) (.cells #[.int .u64 0, .slice none 0 0] 34))⟩ (fun H_54 => ?_)
        clear hK K
        try simp only [Act.put, List.getElem_toArray, List.getElem_cons_succ, List.getElem_cons_zero, List.setIfInBounds_toArray, List.set_cons_zero, List.set_cons_succ]
        refine wpAnyH_ready (rs := [1]) (by kernel_rfl) (by simp) ?_
        refine AllReadyH.cons rfl (fun K hK => ?_) (AllReadyH.nil)
        · skip
          go_simp
          (go_at_call 17; (with_reducible refine (twinB_calls t.f A3 es3 t.l.length c3 _ (HX.out.new B_54) HL3.out (by have := HLN.out; omega) HSM.out).mono ?_); rintro e10 w10 ⟨A10, c10, ds10, rfl, hE10, he10, hb10⟩)
          dsimp only
          have m10 : gF + 1 ≤ ((wd.alloc (.cells #[.int .u8 0, .slice none 0 0, .slice none 0 0] 26)).alloc (.cells #[.int .u64 0, .slice none 0 0] 34)).heap.size := Nat.le_trans HG1.out B_54.size
          have B_55 := below_then B_54 hb10
          have e15_55 : (wd.heap.size + 1) < ((wd.alloc (.cells #[.int .u8 0, .slice none 0 0, .slice none 0 0] 26)).alloc (.cells #[.int .u64 0, .slice none 0 0] 34)).heap.size ∨ w10.heap.size ≤ (wd.heap.size + 1) := .inl q15_54.lt
          have q15_55 := q15_54.new hb10
          have e16_55 : (wd.heap.size) < ((wd.alloc (.cells #[.int .u8 0, .slice none 0 0, .slice none 0 0] 26)).alloc (.cells #[.int .u64 0, .slice none 0 0] 34)).heap.size ∨ w10.heap.size ≤ (wd.heap.size) := .inl q16_54.lt
          have q16_55 := q16_54.new hb10
          have E_55 := Below.refl w10.heap.size w10
          refine hK.out _ _ ⟨H_54.1.new hb10, H_54.2.new hb10⟩ (fun H_55 => ?_)
          clear hK K
          try simp only [Act.put, List.getElem_toArray, List.getElem_cons_succ, List.getElem_cons_zero, List.setIfInBounds_toArray, List.set_cons_zero, List.set_cons_succ]
          refine wpAnyH_ready (rs := [3]) (by kernel_rfl) (by simp) ?_
          refine AllReadyH.cons rfl (fun K hK => ?_) (AllReadyH.nil)
          · skip
            go_simp
            (go_at_call 23; (with_reducible refine (twinEntry_calls v a5 _ _ rfl rfl _ (HU.out.new B_55) (by have := HSV.out.1; omega) (by have := HSV.out.2; omega)).mono ?_); rintro e11 w11 ⟨a11, rfl, hn11⟩)
            dsimp only
            have m11 : gF + 1 ≤ w10.heap.size := Nat.le_trans HG1.out B_55.size
            have B_56 := below_then B_55 hn11.below
            have d15_56 : (wd.heap.size + 1) < w10.heap.size ∨ w11.heap.size ≤ (wd.heap.size + 1) := .inl q15_55.lt
            have q15_56 := q15_55.new hn11.below
            have d16_56 : (wd.heap.size) < w10.heap.size ∨ w11.heap.size ≤ (wd.heap.size) := .inl q16_55.lt
            have q16_56 := q16_55.new hn11.below
            have E_56 := below_then E_55 hn11.below
            have N_56 := Below.refl w11.heap.size w11
            refine hK.out _ _ ⟨H_55.1.new hn11.below, H_55.2.new hn11.below⟩ (fun H_56 => ?_)
            clear hK K
            try simp only [Act.put, List.getElem_toArray, List.getElem_cons_succ, List.getElem_cons_zero, List.setIfInBounds_toArray, List.set_cons_zero, List.set_cons_succ]
            refine wpAnyH_ready (rs := [6]) (by kernel_rfl) (by simp) ?_
            refine AllReadyH.cons rfl (fun K hK => ?_) (AllReadyH.nil)
            · skip
              have s0 := q15_56.c0; have t0 := q15_56.fz 0
              have s1 := q15_56.c1; have t1 := q15_56.fz 1
              go_simp
              have g7_57 : w3.heap.size ≠ (wd.heap.size + 1) := by have := HDX.out.lt; omega
              have g8_57 : w5.heap.size ≠ (wd.heap.size + 1) := by have := HTU.out.lt; omega
              refine hK.out _ _ ⟨(H_56.1.other g7_57).other g7_57, (H_56.2.other g8_57).other g8_57⟩ (fun H_57 => ?_)
              clear hK K
              try simp only [Act.put, List.getElem_toArray, List.getElem_cons_succ, List.getElem_cons_zero, List.setIfInBounds_toArray, List.set_cons_zero, List.set_cons_succ]
              refine wpAnyH_ready (rs := [7]) (by kernel_rfl) (by simp) ?_
              refine AllReadyH.cons rfl (fun K hK => ?_) (AllReadyH.nil)
              · skip
                have P := (q16_56.other (g := (wd.heap.size + 1)) (j := 0) (u := .int .u64 t.f) (Ne.symm ne_54)).other (g := (wd.heap.size + 1)) (j := 1) (u := .slice A10 t.l.length c10) (Ne.symm ne_54)
                have s0 := P.c0; have t0 := P.fz 0
                have s1 := P.c1; have t1 := P.fz 1
                have s2 := P.c2; have t2 := P.fz 2
                go_simp
                have g7_58 : w3.heap.size ≠ (wd.heap.size) := by have := HDX.out.lt; omega
                have g8_58 : w5.heap.size ≠ (wd.heap.size) := by have := HTU.out.lt; omega
                refine hK.out _ _ ⟨((H_57.1.other g7_58).other g7_58).other g7_58, ((H_57.2.other g8_58).other g8_58).other g8_58⟩ (fun H_58 => ?_)
                clear hK K
                try simp only [Act.put, List.getElem_toArray, List.getElem_cons_succ, List.getElem_cons_zero, List.setIfInBounds_toArray, List.set_cons_zero, List.set_cons_succ]
                refine wpAnyH_done (by kernel_rfl) ?_ _
                go_wp2_with fail
                go_meet
                exact ⟨_, _, A10, c10, ds10, a11, rfl, rfl, Nat.le_trans HG1.out l15_54, Nat.le_trans HG1.out l16_44, he10.trans HE3.out, r10_end HQ.out B_56 q15_56 q16_56 hE10 E_56 hn11.K hn11.V N_56 ne_54 l15_54 l16_44 e15_55 e16_55 d15_56 d16_56 m10 m11⟩
  case rest =>
    obtain ⟨b15, b16, Ad, cd, ds2, ad, rfl, rfl, n15, n16, hds2, hQX⟩ := hcut
    have HN15 := Lib.hid n15
    have HN16 := Lib.hid n16
    clear n15 n16
    have HQX := Lib.hid hQX
    have HDS2 := Lib.hid hds2
    clear hQX hds2 HQ
    obtain ⟨wX, hwX⟩ : ∃ x, x = wc := ⟨_, rfl⟩
    subst hwX
    have HW := HQX.out.h.1
    rw [HQE.out] at HW
    obtain ⟨⟨⟨⟨⟨⟨qB, qP, qE, qD⟩, qF⟩, qX, qAX, qDX⟩, qY, qAY, qDY⟩, qU, qAU, qTU⟩, qV, qAV, qTV⟩ := HW
    have d0 := qD.c0
    have d1 := qD.c1
    have lD := qD.lt
    have HEN := Lib.hid qE
    have HD3c := Lib.hid qD
    have HOF := Lib.hid qF
    have HB3 := Lib.hid qB
    have HOX : Hid (gF < wX.heap.size) := Lib.hid (qF.at_base gF rfl).2
    clear qB qP qE qD qF qX qAX qDX qY qAY qDY qU qAU qTU qV qAV qTV
    go_wp2
    go_loopw [17, 20, 21, 22, 23, 24, 102] (fun va _ _ _ _ _ iv wr => ∃ (i : Nat) (Ac : Option Addr) (cc : Nat) (ds : List EnX), i ≤ n ∧ iv = .int .i64 i ∧ ensOf ds = ensOf (es0.take i) ∧ Lp wr (wX.heap.size + 1) va ds i Ac cc ds ∧ Duo wr wX.heap.size (.int .u64 f) (.slice Ac i cc) ∧ Below wX.heap.size wX wr) (fun _ _ _ _ _ _ iv _ => n - (intOf iv).toNat)
    case atStart => exact ⟨0, none, 0, [], Nat.zero_le _, rfl, by simp [ensOf], Lp.nil _ _, Duo.fresh wX wX.heap.size rfl _ _ _, below_alloc1 (Below.refl _ _) (Nat.le_refl _) _⟩
    case round =>
      obtain ⟨i, Ac, cc, ds, hi, rfl, hds, HL, HD, HBB⟩ := hrel
      by_cases hlt : i < n
      · have hz0 := HD.lt
        obtain ⟨a, o, x, rfl, ho, hmem, hok, k0, k1, k2⟩ := (HEN.out.new HBB).at_ i (by rw [← HNN.out]; exact hlt)
        obtain ⟨s1, s2⟩ := HSS.out _ hmem
        replace s1 : o.K.length ≤ 140737488351232 := s1
        replace s2 : o.V.length ≤ 140737488351232 := s2
        have HT := Lib.hid (ensOf_take es0 i o x ho)
        have HDS := Lib.hid hds
        have hok8 := hok.k
        have hlt1 := Lib.hid (fun u hu k hk => (HL.lt u hu k hk).2)
        have hlt2 := Lib.hid (fun k e => (HL.ll.lt k e).2)
        have hlt3 := Lib.hid (fun k e => (HL.el.lt k e).2)
        have hlo3 := Lib.hid (fun k e => (HL.el.lt k e).1)
        have hlo2 := Lib.hid (fun k e => (HL.ll.lt k e).1)
        have hdl := Lib.hid HL.el.len
        have n1 := (below_alloc1 (Below.refl wr.heap.size wr) (Nat.le_refl _) (.cells #[.int .u8 o.k, .slice x.KA o.K.length x.kc, .slice x.VA o.V.length x.vc] 26))
        have HR := Lib.hid ((bgTrio (Trio.fresh wr wr.heap.size rfl (.int .u8 o.k) (.slice x.KA o.K.length x.kc) (.slice x.VA o.V.length x.vc) 26)).and ((bgOk (hok.new n1)).and ((bgLp (HL.new n1)).and ((bgDuo (HD.new n1)).and (bgB (below_then HBB n1))))))
        clear ho hds n1 HL HD HBB hmem hok d0 d1
        go_wp2_with (first
          | (go_at_call 25; go_loud ((with_reducible refine (spareX x.KA o.K _ x.kc _ HR.out.h.2.1.K rfl (by omega)).mono ?_); rintro e2 w2 ⟨gK, rfl, hgK, hoK, hbK⟩; have HGK := Lib.hid (show wr.heap.size ≤ gK from by rw [hgK, asz]; exact Nat.le_succ _); have HR1 := Lib.hid ((HR.out.step hbK).and (bgOB hoK)); have hgK2 := (hoK.at_base gK rfl).2; have T := HR1.out.h.1.1; have t0 := T.c0; have t1 := T.c1; have t2 := T.c2; clear T hoK hbK hgK k0 k1 k2))
          | (go_at_call 25; go_loud ((with_reducible refine (spareX x.VA o.V _ x.vc _ HR1.out.h.1.2.1.V rfl (by omega)).mono ?_); rintro e3 w3 ⟨gV, rfl, hgV, hoV, hbV⟩; have HGV := Lib.hid (show gK < gV from by rw [hgV]; exact hgK2); have HR2 := Lib.hid ((HR1.out.step hbV).and (bgOB hoV)); have T := HR2.out.h.1.1.1; have t0 := T.c0; have t1 := T.c1; have t2 := T.c2; have tl := T.lt; have D := HR2.out.h.1.1.2.2.2.1; have d0 := D.c0; have d1 := D.c1; have f0 := D.fz 0; have f1 := D.fz 1; have dl := D.lt; clear T D hoV hbV hgV HR HR1; have HR3 := Lib.hid (HR2.out.step (below_alloc1 (Below.refl w3.heap.size w3) (Nat.le_refl _) (.cells #[.int .u8 o.k, .slice (some ⟨gK, 0, none⟩) o.K.length (o.K.length + 40), .slice (some ⟨gV, 0, none⟩) o.V.length (o.V.length + 40)] 26)))))
          | (refine wp_appendEK ent rfl (.tmp 119) (.tmp 125) rfl (wX.heap.size + 1) (.slice Ac i cc) i ds rfl HR3.out.h.1.1.2.2.1.el (o, ⟨some ⟨gK, 0, none⟩, o.K.length + 40, some ⟨gV, 0, none⟩, o.V.length + 40⟩) ⟨w3.heap.size, 0, Option.none⟩ rfl (tri_at w3 _ _ _ _).1 (tri_at w3 _ _ _ _).2.1 (tri_at w3 _ _ _ _).2.2 ⟨hok8, HR3.out.h.1.2.rb.pre, HR3.out.h.2.rb.pre⟩ (farNew (m := wr.heap.size) hlt3.out (by omega) HGK.out (by have := HGK.out; have := HGV.out; omega)) (by omega) (by rw [asz]; omega) fun A' c' w5 hel hg ho => ?_; have HLp := Lib.hid ((HR3.out.h.1.1.2.2.1.pushC (x := (o, ⟨some ⟨gK, 0, none⟩, o.K.length + 40, some ⟨gV, 0, none⟩, o.V.length + 40⟩)) (m := wr.heap.size) (by omega) hlt1.out hlt2.out hlt3.out (HR3.out.h.1.2.mono HGK.out) (HR3.out.h.2.mono (by have := HGK.out; have := HGV.out; omega)) (apG (Nat.ne_of_lt HGV.out)) hel hg ho).setLow (g := wX.heap.size) (j := 1) (u := .slice A' (i + 1) c') (by omega)); have D5 := HR3.out.h.1.1.2.2.2.1.far hg (fun e => by have := hlo3.out _ e; omega); have d0 := D5.c0; have d1 := D5.c1; have f0 := D5.fz 0; have f1 := D5.fz 1; have HD6 := Lib.hid (D5.set1 (.slice A' (i + 1) c')); have HB6 := Lib.hid (belowS (g := wX.heap.size) (j := 1) (HR3.out.h.1.1.2.2.2.2.grown hg HR3.out.h.1.1.2.2.2.2.size (fun k hk => by have := hlo3.out _ hk; omega)) (Nat.le_refl _) (.slice A' (i + 1) c')); have hz5 := hg.size; have hz6 := D5.lt; clear hel hg ho D5)
          | (refine wp_appendLK lst rfl (.tmp 128) (.tmp 131) rfl (wX.heap.size + 1) u17 (fulls ds) [kF (o, ⟨some ⟨gK, 0, none⟩, o.K.length + 40, some ⟨gV, 0, none⟩, o.V.length + 40⟩), vF (o, ⟨some ⟨gK, 0, none⟩, o.K.length + 40, some ⟨gV, 0, none⟩, o.V.length + 40⟩)] rfl (HLp.out.new (below_alloc1 (Below.refl _ _) (Nat.le_refl _) _)).ll (some ⟨w5.heap.size, 0, none⟩) 2 2 (by simp [Act.eval]) rfl (fun j y hy => ?_) (fun h => absurd h (by simp)) (by rw [fulls_length]; have := hdl.out; simp only [List.length_cons, List.length_nil]; omega) (by rw [asz]; simp [World.setCell]; omega) fun A2 n2 c2 w7 hn2 hr2 hg2 ho2 => ?_))
        · match j, hy with
          | 0, hy => obtain rfl := Option.some.inj hy; exact ⟨_, rfl, row_at _ _ (by simp [World.setCell]) _ _ 0 _ rfl⟩
          | 1, hy => obtain rfl := Option.some.inj hy; exact ⟨_, rfl, row_at _ _ (by simp [World.setCell]) _ _ 1 _ rfl⟩
          | j + 2, hy => simp at hy
        go_roundw
        case rel =>
          have e2 : n2 = (fulls ds).length + 2 := by rw [hn2]; simp
          subst e2
          have n6 := below_alloc1 (Below.refl (w5.setCell ⟨wX.heap.size, 1, none⟩ (.slice A' (i + 1) c')).heap.size (w5.setCell ⟨wX.heap.size, 1, none⟩ (.slice A' (i + 1) c'))) (Nat.le_refl _) (.cells #[.slice (some ⟨gK, 0, none⟩) (o.K.length + 40) (o.K.length + 40), .slice (some ⟨gV, 0, none⟩) (o.V.length + 40) (o.V.length + 40)] 24)
          refine ⟨i + 1, A', c', ds ++ [(o, ⟨some ⟨gK, 0, none⟩, o.K.length + 40, some ⟨gV, 0, none⟩, o.V.length + 40⟩)], by omega, by go_num, ?_, (HLp.out.new n6).pushA (by rw [fulls_append]; exact hr2) hg2 ho2, (HD6.out.new n6).far hg2 (fun e => by have := hlo2.out _ e; omega), ((below_then HB6.out n6).grown hg2 (below_then HB6.out n6).size (fun k hk => by have := hlo2.out _ hk; omega))⟩
          rw [HT.out, ← HDS.out]
          simp [ensOf]
        case measure => simp [intOf]; omega
      · obtain rfl : n = i := by omega
        clear hlt
        rw [List.take_of_length_le (Nat.le_of_eq HNN.out.symm)] at hds
        obtain ⟨wL, hwL⟩ : ∃ x, x = wr := ⟨_, rfl⟩
        subst hwL
        obtain ⟨q, eE, hq⟩ : ∃ q eE, encBF f (ensOf ds) = (q, eE) := ⟨_, _, rfl⟩
        have HQL : Hid (q.length ≤ 30000) := Lib.hid (by have := encBF_small f (ensOf ds); rw [hq] at this; exact this)
        have HQQ := Lib.hid hq
        have hqe : ((eE : Int) != eE) = false := bne_self_eq_false _
        obtain ⟨Aa, ca, rfl⟩ := HL.ll.form
        have HDL := Lib.hid HL.el.len
        obtain ⟨N2, hN2⟩ : ∃ N2, N2 = (fulls ds).length := ⟨_, rfl⟩
        have HN2 := Lib.hid (show N2 = 2 * n by rw [hN2, fulls_length, HL.el.len])
        have HF2 := Lib.hid hN2.symm
        rw [← hN2] at HL ⊢
        have HAP := Lib.hid (HL.apt (Nat.le_refl _) (fun x hx => by
          have h1 : x.1 ∈ ensOf es0 := by rw [← hds]; exact List.mem_map_of_mem hx
          obtain ⟨y, hy, e1⟩ := List.mem_map.1 h1
          have := HSS.out y hy
          rw [← e1]; omega))
        have HFA := Lib.hid HL.farA
        have HLR := Lib.hid (fun k e => HL.ll.lt k e)
        have HDS := Lib.hid hds
        have HY0 := Lib.hid ((bgB HBB).and ((bgLp HL).and ((bgDuo HD).and ((bgDuo (HD3c.out.new HBB)).and ((bgEnts (HEN.out.new HBB)).and ((bgOB (HOF.out.new HBB)).and (bgApt HAP.out (Nat.le_refl _))))))))
        have d0 := HD.c0
        have d1 := HD.c1
        have hz0 := HD.lt
        have HM2 := Lib.hid HBB.size
        clear hds hq HL HD HBB hN2 hi HD3c HEN HOF lD
        go_wp2_with (first
          | (go_at_call 16; go_loud ((with_reducible refine (encB_calls f _ rfl (by omega) Ac n cc ds _ HY0.out.h.2.1.el.reads HDL.out (by omega) q eE HQQ.out).mono ?_); rintro e11 w11 ⟨A11, c11, rfl, hn11⟩; have HY1 := Lib.hid ((HY0.out.step hn11.below).and ((bgOB hn11.own).and (bgApt (Apt.one hn11.own (Nat.le_refl _) (by have := HQL.out; omega)) (Nat.le_refl _)))); have HZA := Lib.hid hn11.below.size; have D := HY1.out.h.1.2.2.1; have d0 := D.c0; have d1 := D.c1; have dl := D.lt; clear D hn11))
          | (go_at_call 16; go_loud ((with_reducible refine (encB_calls f _ rfl (by omega) Ac n cc ds _ HY1.out.h.1.2.1.el.reads HDL.out (by omega) q eE HQQ.out).mono ?_); rintro e12 w12 ⟨A12, c12, rfl, hn12⟩; have HY2 := Lib.hid ((HY1.out.step hn12.below).and ((bgOB hn12.own).and (bgApt (Apt.one hn12.own (Nat.le_refl _) (by have := HQL.out; omega)) (Nat.le_refl _)))); have HZB := Lib.hid hn12.below.size; clear hn12 HY1 HY0))
          | (go_at_call 19; go_loud ((with_reducible refine (sameR A11 A12 q q _ _ c11 c12 _ HY2.out.h.1.2.1.rb HY2.out.h.2.1.rb rfl rfl true (beq_self_eq_true q)).mono ?_); rintro e13 w13 ⟨rfl, hd13⟩; have HY3 := Lib.hid (HY2.out.step (hd13.below _)); have D := HY3.out.h.1.1.2.2.1; have d0 := D.c0; have d1 := D.c1; have dl := D.lt; have E := HY3.out.h.1.1.2.2.2.1; have e0 := E.c0; have e1 := E.c1; have el := E.lt; clear D E hd13 HY2))
          | (go_at_call 26; go_loud ((with_reducible refine (sameB_calls f Ac A1 ds es0 _ _ cc c1 HDL.out HDL.out _ HY3.out.h.1.1.2.1.el.reads HY3.out.h.1.1.2.2.2.2.1 HDS.out (by omega)).mono ?_); rintro e14 w14 ⟨rfl, hb14⟩; have HY4 := Lib.hid (HY3.out.step hb14); have E := HY4.out.h.1.1.2.2.2.1; have e0 := E.c0; have e1 := E.c1; have el := E.lt; clear E hb14 HY3)))
        go_loopw [28, 29, 162] (fun _ _ iv wr' => ∃ i : Nat, i ≤ n ∧ iv = .int .i64 i ∧ Bl w14 wr') (fun _ _ iv _ => n - (intOf iv).toNat)
        case atStart => exact ⟨0, Nat.zero_le _, rfl, Below.refl _ _⟩
        case round =>
          obtain ⟨i, hi, rfl, HBL⟩ := hrel
          by_cases hlt : i < n
          · obtain ⟨a1, o, x, rfl, ho, hmem, hok, k0, k1, k2⟩ := ((HY4.out.step HBL).h.1.1.2.2.2.2.1).at_ i (by rw [← HNN.out]; exact hlt)
            obtain ⟨s1, s2⟩ := HSS.out _ hmem
            replace s1 : o.K.length ≤ 140737488351232 := s1
            replace s2 : o.V.length ≤ 140737488351232 := s2
            obtain ⟨a2, ha2⟩ := ensOf_at HDS.out i o x ho
            have LP := (HY4.out.step HBL).h.1.1.2.1
            obtain ⟨b1, rfl, g1, _⟩ := LP.ll.cell (2 * i) (kF (o, a2)) (pair_get kF vF ds i _ ha2).1
            replace g1 : wr.cell? (b1.add (2 * i)) = some (.slice a2.KA (o.K.length + 40) a2.kc) := g1
            obtain ⟨b2, hb2, g2, _⟩ := LP.ll.cell (2 * i + 1) (vF (o, a2)) (pair_get kF vF ds i _ ha2).2
            obtain rfl := Option.some.inj hb2
            replace g2 : wr.cell? ⟨b1.block, b1.off + (2 * i + 1), none⟩ = some (.slice a2.VA (o.V.length + 40) a2.vc) := by rw [← add_posM b1 _ (Nat.succ_pos _)]; exact g2
            have n1 := (below_alloc1 (Below.refl wr.heap.size wr) (Nat.le_refl _) (.cells #[.int .u8 o.k, .slice x.KA o.K.length x.kc, .slice x.VA o.V.length x.vc] 26))
            have HK0 := Lib.hid ((LP.K _ (List.mem_of_getElem? ha2)).new n1)
            have HV0 := Lib.hid ((LP.V _ (List.mem_of_getElem? ha2)).new n1)
            have HO0 := Lib.hid (hok.new n1)
            have HTR := Lib.hid (Trio.fresh wr wr.heap.size rfl (.int .u8 o.k) (.slice x.KA o.K.length x.kc) (.slice x.VA o.V.length x.vc) 26)
            have G1 := Lib.hid ((cell_newM n1 g1))
            have G2 := Lib.hid ((cell_newM n1 g2))
            have HBN := Lib.hid (below_then HBL n1)
            have hN1 : 2 * i < N2 := by have := HN2.out; omega
            have hN2 : 2 * i + 1 < N2 := by have := HN2.out; omega
            have hi2 : 2 * i + 1 ≤ 9000000000000 := by omega
            clear ho hmem hok n1 LP ha2 HBL
            go_upto_region 28 with fail
            have hI0 : (0 : Int) ≤ 2 * (i : Int) := by omega
            have hI1 : 2 * (i : Int) < N2 := by omega
            have hI2 : 2 * (i : Int) + 1 < N2 := by omega
            have hI3 : (0 : Int) ≤ 2 * (i : Int) + 1 := by omega
            have hW1 : IntKind.i64.wrap (2 * (i : Int)) = 2 * (i : Int) := IntWalk.i64_in _ (by omega)
            have hW2 : IntKind.i64.wrap (2 * (i : Int) + 1) = 2 * (i : Int) + 1 := IntWalk.i64_in _ (by omega)
            have hT1 : (2 * (i : Int)).toNat = 2 * i := by omega
            have hT2 : (2 * (i : Int) + 1).toNat = 2 * i + 1 := by omega
            have t1 := HTR.out.c1
            have t2 := HTR.out.c2
            have u1 := G1.out
            have u2 := G2.out
            have ul := World.block_lt_of_cell? _ _ G1.out
            have tl := HTR.out.lt
            go_region_held3 (fun w' => w'.cell? (b1.add (2 * i)) = some (.slice a2.KA (o.K.length + 40) a2.kc) ∧ w'.cell? ⟨b1.block, b1.off + (2 * i + 1), none⟩ = some (.slice a2.VA (o.V.length + 40) a2.vc) ∧ w'.cell? ⟨wr.heap.size, 1, none⟩ = some (.slice x.KA o.K.length x.kc) ∧ w'.cell? ⟨wr.heap.size, 2, none⟩ = some (.slice x.VA o.V.length x.vc)) (go_keep) (first
              | (go_at_call 28; go_loud ((with_reducible refine (kept_calls a2.KA x.KA a2.kc x.kc o.K _ HK0.out.rb.drewE HO0.out.K.drewE _ rfl (by omega)).mono ?_); rintro e20 w20 ⟨rfl, hd20⟩; have B20 := Lib.hid (below_then (below_drew _ _) (hd20.below _)); have T := HTR.out.new B20.out; have t1 := T.c1; have t2 := T.c2; have u1 := cell_newM B20.out G1.out; have u2 := cell_newM B20.out G2.out))
              | (go_at_call 28; go_loud ((with_reducible refine (kept_calls a2.VA x.VA a2.vc x.vc o.V _ (HV0.out.new B20.out).rb (HO0.out.V.new B20.out) _ rfl (by omega)).mono ?_); rintro e21 w21 ⟨rfl, hd21⟩; have B21 := Lib.hid (below_then B20.out (hd21.below _)); have T := HTR.out.new B21.out; have t1 := T.c1; have t2 := T.c2; have u1 := cell_newM B21.out G1.out; have u2 := cell_newM B21.out G2.out)))
            go_wp2
            go_roundw
            case rel => exact ⟨i + 1, by omega, by go_num, below_then HBN.out B21.out⟩
            case measure => simp [intOf]; omega
          · obtain rfl : n = i := by omega
            clear hlt
            have HY5 := Lib.hid (HY4.out.step HBL)
            clear HBL HY4 hi
            go_upto_if 198 with (first
              | (go_at_call 20; go_loud ((with_reducible refine (twinR A11 q _ c11 _ HY5.out.h.1.2.1.rb rfl (by have := HQL.out; omega)).mono ?_); rintro e21 w21 ⟨A21, c21, rfl, hn21⟩; have HY6 := Lib.hid ((HY5.out.step hn21.below).and (bgOB (hn21.own.mono HY5.out.h.1.1.2.2.2.2.2.2.2))); have HZC := Lib.hid hn21.below.size; clear hn21 HY5))
              | (go_at_call 21; go_loud ((with_reducible refine (HD1.out _ _ _ HY6.out.h.1.1.1.2.2.2.2.2.1.rb.pre).mono ?_); rintro e22 w22 ⟨A22, c22, rfl, hk22⟩; have HY7 := Lib.hid ((HY6.out.step hk22.below).step (below_alloc1 (Below.refl w22.heap.size w22) (Nat.le_refl _) (.cells #[.int .u64 t.f, .slice A22 t.l.length c22] 34))); clear hk22 HY6)))
            generalize (w22.alloc (.cells #[.int .u64 t.f, .slice A22 t.l.length c22] 34)) = wZ at HY7 ⊢
            go_cut [] from 196 to 206 (fun wy => ∃ P' : List UInt8, P'.length = P.length ∧ OB wy gF 5 (.slice (some ⟨gF, 0, none⟩) (P.length + 40) (P.length + 40)) (P' ++ marks 40) ∧ Agr (· = gF) wZ wy ∧ Below w.heap.size w wy)
            case first =>
              have HO := Lib.hid HY7.out.h.1.1.1.2.2.2.2.2.1
              have HBZ := Lib.hid (below_then HB3.out HY7.out.h.1.1.1.1)
              by_cases hP : 0 < P.length
              · obtain ⟨k, hk9⟩ : ∃ k, P.length = k + 1 := ⟨P.length - 1, by omega⟩
                have hI1 : (P.length : Int) - 1 = (k : Int) := by omega
                have hI2 : (k : Int) < P.length := by omega
                have hI3 : (0 : Int) ≤ k := by omega
                have hI4 : (0 : Int) < (P.length : Int) := by omega
                have hI5 : k < P.length := by omega
                have hI6 : (k : Int) ≤ 9223372036854775807 := by omega
                have C := HO.out.cell k (by simp; omega)
                obtain ⟨b, hb⟩ : ∃ b, b = (P ++ marks 40)[k]'(by simp; omega) := ⟨_, rfl⟩
                rw [← hb] at C
                have x0 := C.1
                have f0 := C.2
                have hX : bits .xor .u8 (uB b) 1 = uB (b ^^^ 1) := bits_xor_u8M b 1
                have HK9 := Lib.hid hk9
                clear C hb hk9 HY7
                go_wp2
                go_meet
                exact ⟨P.set k (b ^^^ 1), by simp, by have := (HO.out.set k (b ^^^ 1)).1; rw [List.set_append_left _ _ hI5] at this; exact this, (Agr.refl _ _).grown (HO.out.set k (b ^^^ 1)).2 rfl, HBZ.out.setCell (Nat.le_of_lt HZ2.out.1) _⟩
              · have hI4 : ¬ (0 : Int) < (P.length : Int) := by omega
                go_wp2
                go_meet
                exact ⟨P, rfl, HO.out, Agr.refl _ _, HBZ.out⟩
            case rest =>
              obtain ⟨P', hP1, hP2, hP3, hP4⟩ := hcut
              obtain ⟨t2, ht2⟩ : ∃ t2, decB P' = t2 := ⟨_, rfl⟩
              have HT2 := Lib.hid ht2
              have HL2 : Hid (t2.l.length ≤ 64) := Lib.hid (by have := Bat.len P'; rw [ht2] at this; exact this)
              have HP1 := Lib.hid hP1
              have htt2 : ((t2.e : Int) != t2.e) = false := bne_self_eq_false _
              have HW0 := Lib.hid ((bgOB hP2).and ((bgAgr hP3).and (bgB hP4)))
              clear ht2 hP1 hP2 hP3 hP4
              go_wp2_with (first
                | (go_at_call 21; go_loud ((with_reducible refine (decodeB_calls (some ⟨gF, 0, none⟩) P' _ _ _ HW0.out.h.1.rb.pre HP1.out.symm (by rw [HP1.out]; exact hl1) t2 HT2.out).mono ?_); rintro e23 w23 ⟨A23, c23, rfl, ⟨⟨es23, he23, hl23, ho23⟩, hb23⟩⟩; have n23 := (below_alloc1 (Below.refl w23.heap.size w23) (Nat.le_refl _) (.cells #[.int .u64 t2.f, .slice A23 t2.l.length c23] 34)); have HW1 := Lib.hid (((HW0.out.step hb23).step n23).and (((bgEnts ho23).step n23).and (bgDuo (Duo.fresh w23 w23.heap.size rfl (.int .u64 t2.f) (.slice A23 t2.l.length c23) 34)))); have HE23 := Lib.hid he23; have HL23 := Lib.hid hl23; clear he23 hl23 ho23 hb23 n23 HW0))
                | (go_at_call 20; go_loud ((with_reducible refine (twinR (some ⟨gF, 0, none⟩) P' _ _ _ HW1.out.h.1.1.rb.pre HP1.out.symm (by rw [HP1.out]; exact hl1)).mono ?_); rintro e24 w24 ⟨A24, c24, rfl, hn24⟩; have HW2 := Lib.hid ((HW1.out.step hn24.below).and (bgOB hn24.own)); clear hn24 HW1))
                | (go_at_call 29; go_loud ((with_reducible refine (docDecodeB_calls A24 P' _ c24 _ HW2.out.h.2.rb HP1.out.symm (by rw [HP1.out]; exact hl1) t2 HT2.out).mono ?_); rintro e25 w25 ⟨A25, c25, rfl, ⟨⟨es25, he25, hl25, ho25⟩, hb25⟩⟩; have n25 := (below_alloc1 (Below.refl w25.heap.size w25) (Nat.le_refl _) (.cells #[.int .u64 t2.f, .slice A25 t2.l.length c25] 34)); have HW3 := Lib.hid (((HW2.out.step hb25).step n25).and (((bgEnts ho25).step n25).and (bgDuo (Duo.fresh w25 w25.heap.size rfl (.int .u64 t2.f) (.slice A25 t2.l.length c25) 34)))); have HE25 := Lib.hid he25; have D := HW3.out.h.1.1.2.2; have E := HW3.out.h.2.2; have d0 := D.c0; have d1 := D.c1; have dl := D.lt; have e0 := E.c0; have e1 := E.c1; have el := E.lt; clear D E he25 hl25 ho25 hb25 n25 HW2))
                | (go_at_call 26; go_loud ((with_reducible refine (sameB_calls t2.f A23 A25 es23 es25 _ _ c23 c25 HL23.out HL23.out _ HW3.out.h.1.1.2.1 HW3.out.h.2.1 (HE23.out.trans HE25.out.symm) (Nat.le_trans HL2.out (by decide))).mono ?_); rintro e26 w26 ⟨rfl, hb26⟩; have HW4 := Lib.hid ((HW3.out.step hb26).h.1.1.1); clear hb26 HW3))
                | (go_at_call 30; go_loud ((with_reducible refine (overR gF gF (P.length + 40) (P.length + 40) (P.length + 40) (P.length + 40) (P' ++ marks 40) [] _ (by rw [List.append_nil]; exact HW4.out.1) (by rw [List.length_append, marks_length, HP1.out])).mono ?_); rintro e27 w27 ⟨rfl, ho27, hg27⟩; have HO27 := Lib.hid ho27; have HA27 := Lib.hid ((HW4.out.2.1.grown hg27 rfl).weak (G := fun k => k = gF ∨ (wX.heap.size + 1 ≤ k ∧ k < wL.heap.size)) (fun k e => .inl e)); have HA1 := Lib.hid (HW4.out.2.1.grown hg27 rfl); have HB27 := Lib.hid (HW4.out.2.2.grown hg27 HW4.out.2.2.size (fun k e => by have := Option.some.inj e; have := HZ2.out.1; omega)); clear ho27 hg27 HW4)))
              have hgX : gF < wX.heap.size + 1 := by have := HB3.out.size; have := HOX.out; omega
              have LP := HY7.out.h.1.1.1.2.1
              have AP := HY7.out.h.1.1.1.2.2.2.2.2.2
              have hL27 : LL w27 (wX.heap.size + 1) (.slice Aa N2 ca) (fulls ds) := LP.ll.kept fun k h1 h2 => HA1.out.block k h2 (show ¬ k = gF by omega)
              have hP27 : Apt w27 (wX.heap.size + 1) wL.heap.size (fulls ds) := AP.1.keep fun k h1 h2 => HA1.out.block k (Nat.lt_of_lt_of_le h2 AP.2) (show ¬ k = gF by omega)
              clear LP AP HA1
              go_loopw [38, 236] (fun _ iv wr => ∃ i : Nat, i ≤ N2 ∧ iv = .int .i64 i ∧ Apt wr (wX.heap.size + 1) wL.heap.size (fulls ds) ∧ LL wr (wX.heap.size + 1) (.slice Aa N2 ca) (fulls ds) ∧ Agr (fun k => k = gF ∨ (wX.heap.size + 1 ≤ k ∧ k < wL.heap.size)) wZ wr ∧ Below w.heap.size w wr ∧ ∃ pf, OB wr gF 5 (.slice (some ⟨gF, 0, none⟩) (P.length + 40) (P.length + 40)) pf) (fun _ iv _ => N2 - (intOf iv).toNat)
              case atStart => exact ⟨0, Nat.zero_le _, rfl, hP27, hL27, HA27.out, HB27.out, _, HO27.out⟩
              case round =>
                obtain ⟨i, hi, rfl, hAP, hLL, hAG, hBW, pf, hPF⟩ := hrel
                by_cases hlt : i < N2
                · have hi9 : i < 9000000000000 := by have := HN2.out; omega
                  obtain ⟨⟨A, m, c⟩, hx, hm, h40⟩ := fulls_at ds i (by rw [HF2.out]; exact hlt)
                  obtain ⟨p, hp⟩ := hAP.own _ hm
                  have hpm := hp.len
                  simp only at h40
                  obtain ⟨g, rfl, hBg⟩ := OB.someA hp (by rw [← hpm]; exact Nat.lt_of_lt_of_le (by decide) h40)
                  obtain ⟨b1, rfl, g1, _⟩ := hLL.cell i _ hx
                  replace g1 : wr.cell? (b1.add i) = some (.slice (some ⟨g, 0, none⟩) m c) := g1
                  have HR := Lib.hid (show OB wr (wX.heap.size + 1) 5 (.slice (some ⟨g, 0, none⟩) m c) (p ++ []) by rw [List.append_nil]; exact hp)
                  have HPM := Lib.hid hpm
                  have hgL := hAP.lt _ hm g rfl
                  have hI := Lib.hid hx
                  have HM9 := Lib.hid hm
                  have hNe : g ≠ gF := by omega
                  clear hp hpm hx hm
                  go_wp2_with (go_at_call 30; go_loud ((with_reducible refine (overR (wX.heap.size + 1) g m c m c p [] _ HR.out HPM.out).mono ?_); rintro e28 w28 ⟨rfl, ho28, hg28⟩))
                  go_roundw
                  case rel => exact ⟨i + 1, by omega, by go_num, hAP.over i _ hI.out rfl _ ho28 hg28, ⟨hLL.out.kept hg28 ((HFA.out _ HM9.out).symm)⟩, hAG.grown hg28 (.inr ⟨hBg, hgL⟩), hBW.grown hg28 hBW.size (fun k e => by have := Option.some.inj e; have := HB3.out.size; omega), pf, hPF.keep hg28 (.inr (fun e => hNe (Option.some.inj e).symm))⟩
                  case measure => simp [intOf]; omega
                · obtain rfl : N2 = i := by omega
                  clear hlt
                  obtain ⟨wD, hwD⟩ : ∃ x, x = wr := ⟨_, rfl⟩
                  subst hwD
                  obtain ⟨qQ, q15, q16, qE2, qUK2, qUV2⟩ := HQX.out.h
                  rw [HQE.out] at qQ
                  obtain ⟨⟨⟨⟨⟨⟨qB, qP, qE, qD⟩, qF⟩, qX, qAX, qDX⟩, qY, qAY, qDY⟩, qU, qAU, qTU⟩, qV, qAV, qTV⟩ := qQ
                  have hXZ := HY7.out.h.1.1.1.1
                  have hZ3 := HZ3.out
                  have hZ4 := HZ4.out
                  have hZ5 := HZ5.out
                  have hZ6 := HZ6.out
                  have hZ2 := HZ2.out
                  have hZA := HZA.out
                  have hZB := HZB.out
                  have n7 : gF + 1 ≤ w3.heap.size := by omega
                  have n9 : gF + 1 ≤ w4.heap.size := by omega
                  have n11 : gF + 1 ≤ w5.heap.size := by omega
                  have n13 : gF + 1 ≤ w6.heap.size := by omega
                  have F : Fix (gF + 1) wX.heap.size wX wD := ⟨Nat.le_trans hXZ.size hAG.size, fun k h1 h2 => (hAG.block k (Nat.lt_of_lt_of_le h2 hXZ.size) (show ¬ (k = gF ∨ (wX.heap.size + 1 ≤ k ∧ k < wL.heap.size)) by omega)).trans (hXZ.block k h2)⟩
                  have hob : ∀ {base : Nat} {u : Value} {pp : List UInt8}, wL.heap.size ≤ base → OB wZ base 5 u pp → OB wD base 5 u pp := fun hb ho => ho.same fun k e => hAG.block k (ho.at_base k e).2 (show ¬ (k = gF ∨ (wX.heap.size + 1 ≤ k ∧ k < wL.heap.size)) by have := (ho.at_base k e).1; omega)
                  have hap : ∀ {l1 l2 : Nat} {hs : List Hd}, wL.heap.size ≤ l1 → l2 ≤ wZ.heap.size → Apt wZ l1 l2 hs → Apt wD l1 l2 hs := fun hb hz ho => ho.keep fun k h1 h2 => hAG.block k (by omega) (show ¬ (k = gF ∨ (wX.heap.size + 1 ≤ k ∧ k < wL.heap.size)) by omega)
                  have hS := hob (Nat.le_refl _) HY7.out.h.1.1.2.1
                  have hT := hob hZA HY7.out.h.1.2.1
                  have hS2 := hob (Nat.le_refl _) HY7.out.h.2
                  have aS := hap (Nat.le_refl _) HY7.out.h.1.1.2.2.2 HY7.out.h.1.1.2.2.1
                  have aT := hap hZA HY7.out.h.1.2.2.2 HY7.out.h.1.2.2.1
                  have aF := Apt.at_ hPF (by omega)
                  have aX := F.apt qAX.1 (by omega) qAX.2
                  have aY := F.apt qAY.1 (by omega) qAY.2
                  have aU := F.apt qAU.1 (by omega) qAU.2
                  have aV := F.apt qAV.1 (by omega) qAV.2
                  have hV6 := qAV.2
                  have hz12 := HY7.out.h.1.2.2.2
                  have k1 := aF.append aX (.inl (by omega)) (Nat.le_refl _) (by omega) (by omega) (Nat.le_refl _)
                  have k2 := k1.append aY (.inl (Nat.le_refl _)) (Nat.le_refl _) (by omega) (by omega) (Nat.le_refl _)
                  have k3 := k2.append aU (.inl (Nat.le_refl _)) (Nat.le_refl _) (by omega) (by omega) (Nat.le_refl _)
                  have k4 := k3.append aV (.inl (Nat.le_refl _)) (Nat.le_refl _) (by omega) (by omega) (Nat.le_refl _)
                  have k5 := k4.append hAP (.inl (by omega)) (Nat.le_refl _) (by omega) (by omega) (Nat.le_refl _)
                  have k6 := k5.append aS (.inl (Nat.le_refl _)) (Nat.le_refl _) (by omega) (by omega) (Nat.le_refl _)
                  have k7 := k6.append aT (.inl (Nat.le_refl _)) (Nat.le_refl _) (by omega) (by omega) (Nat.le_refl _)
                  have hpm := perm8 (⟨some ⟨gF, 0, none⟩, P.length + 40, P.length + 40⟩ : Hd) ⟨A11, q.length, c11⟩ ⟨A12, q.length, c12⟩ (hdsE es3) (hdsE es4) (hdsE [(v, a5)]) (hdsE [(v, a6)]) (fulls ds)
                  have hlr := HLR.out
                  have fA : ∀ y ∈ ((fulls ds ++ ([⟨some ⟨gF, 0, none⟩, P.length + 40, P.length + 40⟩, ⟨A11, q.length, c11⟩, ⟨A12, q.length, c12⟩] ++ (hdsE [(v, a5)] ++ hdsE [(v, a6)]))) ++ hdsE es3) ++ hdsE es4, apV (Hd.val y) (.slice Aa N2 ca) := fun y hy => by
                    have hy := hpm.mem_iff.2 hy
                    simp only [List.mem_append] at hy
                    rcases hy with ((((((hy | hy) | hy) | hy) | hy) | hy) | hy) | hy
                    · exact aF.farRow hlr (.inl (by omega)) y hy
                    · exact aX.farRow hlr (.inl (by omega)) y hy
                    · exact aY.farRow hlr (.inl (by omega)) y hy
                    · exact aU.farRow hlr (.inl (by omega)) y hy
                    · exact aV.farRow hlr (.inl (by omega)) y hy
                    · exact HFA.out y hy
                    · exact aS.farRow hlr (.inr (Nat.le_refl _)) y hy
                    · exact aT.farRow hlr (.inr hZA) y hy
                  have kT := k7.perm hpm
                  have hHSl : (((fulls ds ++ ([⟨some ⟨gF, 0, none⟩, P.length + 40, P.length + 40⟩, ⟨A11, q.length, c11⟩, ⟨A12, q.length, c12⟩] ++ (hdsE [(v, a5)] ++ hdsE [(v, a6)]))) ++ hdsE es3) ++ hdsE es4 : List Hd).length ≤ 5100000000000 := by
                    have e1 := HL3.out
                    have e2 := HL4.out
                    have e3 := HLN.out
                    have e4 := HN2.out
                    simp only [List.length_append, hdsE_length, HF2.out, List.length_cons, List.length_nil]
                    omega
                  obtain ⟨HS, hHS⟩ : ∃ HS, HS = ((fulls ds ++ ([⟨some ⟨gF, 0, none⟩, P.length + 40, P.length + 40⟩, ⟨A11, q.length, c11⟩, ⟨A12, q.length, c12⟩] ++ (hdsE [(v, a5)] ++ hdsE [(v, a6)]))) ++ hdsE es3) ++ hdsE es4 := ⟨_, rfl⟩
                  rw [← hHS] at kT fA hHSl
                  have HHS := Lib.hid hHS
                  have HFA0 := Lib.hid fA
                  have HHL := Lib.hid hHSl
                  have HX7 := Lib.hid qDX
                  have HX9 := Lib.hid qDY
                  have HX11 := Lib.hid qTU
                  have HX13 := Lib.hid qTV
                  have HX15 := Lib.hid q15
                  have HX16 := Lib.hid q16
                  have HXE := Lib.hid qX
                  have HYE := Lib.hid qY
                  have HX2 := Lib.hid qE2
                  have HUK := Lib.hid (show OB wX (gF + 1) 5 (.slice a5.KA v.K.length a5.kc) v.K from qU.K _ (List.mem_singleton.2 rfl))
                  have HUV := Lib.hid (show OB wX (gF + 1) 5 (.slice a5.VA v.V.length a5.vc) v.V from qU.V _ (List.mem_singleton.2 rfl))
                  have HU2K := Lib.hid qUK2
                  have HU2V := Lib.hid qUV2
                  have HD0 := Lib.hid ((bgB hBW).and ((bgFix F).and ((bgApt kT (Nat.le_trans hz12 hAG.size)).and ((bgLL hLL).and ((bgOB hS).and ((bgOB hT).and (bgOB hS2)))))))
                  have hW12 : wX.heap.size + 1 ≤ w12.heap.size := by omega
                  have hgZ : gF ≤ w12.heap.size := by omega
                  have D := HD0.out.h.2.1.duo HX7.out n7
                  have E := HD0.out.h.2.1.duo HX9.out n9
                  have G := HD0.out.h.2.1.duo HX15.out HN15.out
                  have T := HD0.out.h.2.1.trio HX11.out n11
                  have S := HD0.out.h.2.1.trio HX16.out HN16.out
                  have a0 := D.c0
                  have a1 := D.c1
                  have b0 := E.c0
                  have b1 := E.c1
                  have g0 := G.c0
                  have g1 := G.c1
                  have t0 := T.c0
                  have t1 := T.c1
                  have t2 := T.c2
                  have s0 := S.c0
                  have s1 := S.c1
                  have s2 := S.c2
                  clear D E G T S
                  clear q15 q16 qE2 qUK2 qUV2 hXZ F hob hap hS hT hS2 aS aT aF aX aY aU aV k1 k2 k3 k4 k5 k6 k7 hpm hlr fA kT hHSl hHS hAP hLL hAG hBW hPF hz12 hP27 hL27
                  clear qB qP qE qD qF qX qAX qDX qY qAY qDY qU qAU qTU qV qAV qTV
                  go_wp2_with (first
                    | (go_at_call 26; go_loud ((with_reducible refine (sameB_calls t.f A3 Ad es3 ds2 _ _ c3 cd HL3.out HL3.out _ (HD0.out.h.2.1.el HXE.out).reads (HD0.out.h.2.1.el HX2.out).reads (HE3.out.trans HDS2.out.symm) (Nat.le_trans HLN.out (by decide))).mono ?_); rintro e31 w31 ⟨rfl, hb31⟩; have HD1 := Lib.hid (HD0.out.step hb31); clear hb31; have D := HD1.out.h.2.1.duo HX7.out n7; have E := HD1.out.h.2.1.duo HX9.out n9; have G := HD1.out.h.2.1.duo HX15.out HN15.out; have T := HD1.out.h.2.1.trio HX11.out n11; have S := HD1.out.h.2.1.trio HX16.out HN16.out; have a0 := D.c0; have a1 := D.c1; have b0 := E.c0; have b1 := E.c1; have g0 := G.c0; have g1 := G.c1; have t0 := T.c0; have t1 := T.c1; have t2 := T.c2; have s0 := S.c0; have s1 := S.c1; have s2 := S.c2; clear D E G T S))
                    | (go_at_call 26; go_loud ((with_reducible refine (sameB_calls t.f A4 Ad es4 ds2 _ _ c4 cd HL4.out HL4.out _ (HD1.out.h.2.1.el HYE.out).reads (HD1.out.h.2.1.el HX2.out).reads (HE4.out.trans HDS2.out.symm) (Nat.le_trans HLN.out (by decide))).mono ?_); rintro e32 w32 ⟨rfl, hb32⟩; have HD2 := Lib.hid (HD1.out.step hb32); clear hb32; have D := HD2.out.h.2.1.duo HX7.out n7; have E := HD2.out.h.2.1.duo HX9.out n9; have G := HD2.out.h.2.1.duo HX15.out HN15.out; have T := HD2.out.h.2.1.trio HX11.out n11; have S := HD2.out.h.2.1.trio HX16.out HN16.out; have a0 := D.c0; have a1 := D.c1; have b0 := E.c0; have b1 := E.c1; have g0 := G.c0; have g1 := G.c1; have t0 := T.c0; have t1 := T.c1; have t2 := T.c2; have s0 := S.c0; have s1 := S.c1; have s2 := S.c2; clear D E G T S))
                    | (go_at_call 27; go_loud ((with_reducible refine (sameE_calls v a5 ad _ _ _ _ rfl rfl rfl rfl _ ⟨hk, (HD2.out.h.2.1.ob HUK.out).rb, (HD2.out.h.2.1.ob HUV.out).rb⟩ ⟨hk, (HD2.out.h.2.1.ob HU2K.out).rb, (HD2.out.h.2.1.ob HU2V.out).rb⟩).mono ?_); rintro e33 w33 ⟨rfl, hb33⟩; have HD3 := Lib.hid (HD2.out.step hb33); clear hb33))
                    | (go_at_call 19; go_loud ((with_reducible refine (sameR A11 A21 q q _ _ c11 c21 _ HD3.out.h.2.2.2.2.1.rb HD3.out.h.2.2.2.2.2.2.rb rfl rfl true (beq_self_eq_true q)).mono ?_); rintro e34 w34 ⟨rfl, hd34⟩; have HD4 := Lib.hid (HD3.out.step (hd34.below _)); clear hd34))
                    | (go_at_call 19; go_loud ((with_reducible refine (sameR A12 A21 q q _ _ c12 c21 _ HD4.out.h.2.2.2.2.2.1.rb HD4.out.h.2.2.2.2.2.2.rb rfl rfl true (beq_self_eq_true q)).mono ?_); rintro e35 w35 ⟨rfl, hd35⟩; have HD5 := Lib.hid (HD4.out.step (hd35.below _)); clear hd35 HD4 HD3 HD2 HD1 HD0; have D := HD5.out.h.2.1.duo HX7.out n7; have E := HD5.out.h.2.1.duo HX9.out n9; have G := HD5.out.h.2.1.duo HX15.out HN15.out; have T := HD5.out.h.2.1.trio HX11.out n11; have S := HD5.out.h.2.1.trio HX16.out HN16.out; have a0 := D.c0; have a1 := D.c1; have b0 := E.c0; have b1 := E.c1; have g0 := G.c0; have g1 := G.c1; have t0 := T.c0; have t1 := T.c1; have t2 := T.c2; have s0 := S.c0; have s1 := S.c1; have s2 := S.c2; clear D E G T S; have T := HD5.out.h.2.1.trio HX13.out n13; have u0 := T.c0; have u1 := T.c1; have u2 := T.c2; clear T))
                    | (refine wp_appendLK lst rfl (.tmp 271) (.tmp 283) rfl (wX.heap.size + 1) (.slice Aa N2 ca) (fulls ds) [⟨some ⟨gF, 0, none⟩, P.length + 40, P.length + 40⟩, ⟨A11, q.length, c11⟩, ⟨A12, q.length, c12⟩, kH (v, a5), vH (v, a5), kH (v, a6), vH (v, a6)] rfl (HD5.out.step (below_alloc1 (Below.refl _ _) (Nat.le_refl _) _)).h.2.2.2.1 (some ⟨w35.heap.size, 0, none⟩) 7 7 (by simp [Act.eval]) rfl (rows_at w35 _ rfl [⟨some ⟨gF, 0, none⟩, P.length + 40, P.length + 40⟩, ⟨A11, q.length, c11⟩, ⟨A12, q.length, c12⟩, kH (v, a5), vH (v, a5), kH (v, a6), vH (v, a6)] _) (fun h => absurd h (by simp)) (by rw [HF2.out]; have := HN2.out; simp only [List.length_cons, List.length_nil]; omega) (Nat.le_trans hW12 (HD5.out.step (below_alloc1 (Below.refl w35.heap.size w35) (Nat.le_refl _) (.cells #[.slice (some ⟨gF, 0, none⟩) (P.length + 40) (P.length + 40), .slice A11 q.length c11, .slice A12 q.length c12, .slice a5.KA v.K.length a5.kc, .slice a5.VA v.V.length a5.vc, .slice a6.KA v.K.length a6.kc, .slice a6.VA v.V.length a6.vc] 24))).h.2.2.1.2) fun A41 n41 c41 w41 hn41 hl41 hg41 ho41 => ?_; have HDV := HD5.out.step (below_alloc1 (Below.refl w35.heap.size w35) (Nat.le_refl _) (.cells #[.slice (some ⟨gF, 0, none⟩) (P.length + 40) (P.length + 40), .slice A11 q.length c11, .slice A12 q.length c12, .slice a5.KA v.K.length a5.kc, .slice a5.VA v.V.length a5.vc, .slice a6.KA v.K.length a6.kc, .slice a6.VA v.V.length a6.vc] 24)); have HDW := Lib.hid ((bgB HDV.h.1).and ((bgFix HDV.h.2.1).and ((bgApt HDV.h.2.2.1.1 HDV.h.2.2.1.2).and (bgLL HDV.h.2.2.2.1)))); clear HDV; have HN41 := Lib.hid hn41; have HF1 := Lib.hid (fun y (hy : y ∈ HS) => (HFA0.out y hy).row (fun k e => Nat.lt_of_lt_of_le (HDW.out.h.2.2.1.1.lt y hy k e) HDW.out.h.2.2.1.2) ho41); have HE0 := Lib.hid ((bgB (HDW.out.h.1.grown hg41 HDW.out.h.1.size (fun k e => by have := (HDW.out.h.2.2.2.lt k e).1; have := HB3.out.size; omega))).and ((bgFix (HDW.out.h.2.1.grown hg41 (fun k e => by have := (HDW.out.h.2.2.2.lt k e).1; omega))).and ((bgApt (HDW.out.h.2.2.1.1.far hg41 HFA0.out) (Nat.le_trans HDW.out.h.2.2.1.2 hg41.size)).and (bgLL hl41)))); have D := HE0.out.h.2.1.duo HX7.out n7; have E := HE0.out.h.2.1.duo HX9.out n9; have a0 := D.c0; have a1 := D.c1; have b0 := E.c0; have b1 := E.c1; clear D E; clear hn41 hl41 hg41 ho41 HDW HD5 s0 s1 s2 t0 t1 t2 u0 u1 u2 g0 g1)
                    | (go_at_call 31; go_loud ((with_reducible refine (listed_calls t.f A3 es3 _ c3 _ (HE0.out.h.2.1.el HXE.out).reads HL3.out (by have := HLN.out; omega)).mono ?_); rintro e42 w42 ⟨A42, n42, c42, rfl, hn42, hll42, hb42⟩; have HE1 := Lib.hid ((HE0.out.step hb42).and (bgLL hll42)); have HN42 := Lib.hid hn42; clear hn42 hll42 hb42 HE0))
                    | (refine wp_appendLK lst rfl (.tmp 285) (.tmp 287) rfl (wX.heap.size + 1) (.slice A41 n41 c41) (fulls ds ++ [⟨some ⟨gF, 0, none⟩, P.length + 40, P.length + 40⟩, ⟨A11, q.length, c11⟩, ⟨A12, q.length, c12⟩, kH (v, a5), vH (v, a5), kH (v, a6), vH (v, a6)]) (hdsE es3) rfl HE1.out.h.1.2.2.2 A42 n42 c42 rfl HN42.out (fun j y hy => (HE1.out.h.2.cell j y hy).imp fun b h => ⟨h.1, h.2.1⟩) (fun e => LL.none0 (e ▸ HE1.out.h.2)) (by simp only [List.length_append, hdsE_length, HF2.out, List.length_cons, List.length_nil]; have := HN2.out; have := HL3.out; have := HL4.out; have := HLN.out; omega) (Nat.le_trans hW12 HE1.out.h.1.2.2.1.2) fun A43 n43 c43 w43 hn43 hl43 hg43 ho43 => ?_; have HN43 := Lib.hid hn43; have HFB := Lib.hid (fun y (hy : y ∈ HS) => (HF1.out y hy).row (fun k e => Nat.lt_of_lt_of_le (HE1.out.h.1.2.2.1.1.lt y hy k e) HE1.out.h.1.2.2.1.2) ho43); have HG0 := Lib.hid ((bgB (HE1.out.h.1.1.grown hg43 HE1.out.h.1.1.size (fun k e => by have := (HE1.out.h.1.2.2.2.lt k e).1; have := HB3.out.size; omega))).and ((bgFix (HE1.out.h.1.2.1.grown hg43 (fun k e => by have := (HE1.out.h.1.2.2.2.lt k e).1; omega))).and ((bgApt (HE1.out.h.1.2.2.1.1.far hg43 HF1.out) (Nat.le_trans HE1.out.h.1.2.2.1.2 hg43.size)).and (bgLL hl43)))); have D := HG0.out.h.2.1.duo HX7.out n7; have E := HG0.out.h.2.1.duo HX9.out n9; have a0 := D.c0; have a1 := D.c1; have b0 := E.c0; have b1 := E.c1; clear D E; clear hn43 hl43 hg43 ho43 HE1)
                    | (go_at_call 31; go_loud ((with_reducible refine (listed_calls t.f A4 es4 _ c4 _ (HG0.out.h.2.1.el HYE.out).reads HL4.out (by have := HLN.out; omega)).mono ?_); rintro e44 w44 ⟨A44, n44, c44, rfl, hn44, hll44, hb44⟩; have HG1 := Lib.hid ((HG0.out.step hb44).and (bgLL hll44)); have HN44 := Lib.hid hn44; clear hn44 hll44 hb44 HG0))
                    | (refine wp_appendLK lst rfl (.tmp 289) (.tmp 291) rfl (wX.heap.size + 1) (.slice A43 n43 c43) ((fulls ds ++ [⟨some ⟨gF, 0, none⟩, P.length + 40, P.length + 40⟩, ⟨A11, q.length, c11⟩, ⟨A12, q.length, c12⟩, kH (v, a5), vH (v, a5), kH (v, a6), vH (v, a6)]) ++ hdsE es3) (hdsE es4) rfl HG1.out.h.1.2.2.2 A44 n44 c44 rfl HN44.out (fun j y hy => (HG1.out.h.2.cell j y hy).imp fun b h => ⟨h.1, h.2.1⟩) (fun e => LL.none0 (e ▸ HG1.out.h.2)) (by simp only [List.length_append, hdsE_length, HF2.out, List.length_cons, List.length_nil]; have := HN2.out; have := HL3.out; have := HL4.out; have := HLN.out; omega) (Nat.le_trans hW12 HG1.out.h.1.2.2.1.2) fun A45 n45 c45 w45 hn45 hl45 hg45 ho45 => ?_; have HN45 := Lib.hid hn45; have HFC := Lib.hid (fun y (hy : y ∈ HS) => (HFB.out y hy).row (fun k e => Nat.lt_of_lt_of_le (HG1.out.h.1.2.2.1.1.lt y hy k e) HG1.out.h.1.2.2.1.2) ho45); have HI0 := Lib.hid ((bgB (HG1.out.h.1.1.grown hg45 HG1.out.h.1.1.size (fun k e => by have := (HG1.out.h.1.2.2.2.lt k e).1; have := HB3.out.size; omega))).and ((bgFix (HG1.out.h.1.2.1.grown hg45 (fun k e => by have := (HG1.out.h.1.2.2.2.lt k e).1; omega))).and ((bgApt (HG1.out.h.1.2.2.1.1.far hg45 HFB.out) (Nat.le_trans HG1.out.h.1.2.2.1.2 hg45.size)).and (bgLL hl45)))); have D := HI0.out.h.2.1.duo HX7.out n7; have E := HI0.out.h.2.1.duo HX9.out n9; have a0 := D.c0; have a1 := D.c1; have b0 := E.c0; have b1 := E.c1; clear D E; clear hn45 hl45 hg45 ho45 HG1; have HLL9 := Lib.hid (show LL w45 (wX.heap.size + 1) (.slice A45 n45 c45) HS from by rw [HHS.out]; exact HI0.out.h.2.2.2); have HLEN := Lib.hid (show n45 = HS.length from by rw [HN45.out, HHS.out]; simp [hdsE, List.append_assoc]); have HCC := Lib.hid (show ∀ (i : Nat) (x : Hd), HS[i]? = some x → ∃ b : Addr, A45 = some b ∧ w45.cell? (b.add i) = some x.val ∧ ∀ y ∈ HS, y.val.ownBlock ≠ some b.block from fun i x hx => by
                        obtain ⟨b, e1, e2, _, _⟩ := HLL9.out.cell i x hx
                        exact ⟨b, e1, e2, fun y hy e => (HFC.out y hy).ne e (LL.someB HLL9.out b e1)⟩))
                    | (go_at_call 32; go_loud ((with_reducible refine (apartM gF w12.heap.size A45 HS n45 c45 _ HI0.out.h.2.2.1.1 HI0.out.h.2.2.1.2 (Nat.le_trans hgZ HI0.out.h.2.2.1.2) HLEN.out HCC.out HHL.out).mono ?_); rintro e46 w46 ⟨rfl, hb46⟩)))
                  go_ret
                  exact ⟨rfl, HI0.out.h.1.trans (below_lowM hb46 (Nat.le_of_lt HZ2.out.1))⟩
end Go.Proofs.Ytelecdncdaepnaa
