import Derived.Test.YtpmnnnbkbcpgjaaGreatDoorQBc
import Derived.Test.YtpmnnnbkbcpgjaaGreatDoorQBh
import Derived.Test.YtpmnnnbkbcpgjaaGreatDoorQListRows
import Derived.Test.YtpmnnnbkbcpgjaaGreatDoorQBd
import Derived.Test.YtpmnnnbkbcpgjaaGreatDoorQSpareWalk
import Derived.Test.YtpmnnnbkbcpgjaaGreatDoorQBb
import Derived.Test.YtpmnnnbkbcpgjaaGreatDoorQEntryDecodes
import Derived.Test.YtpmnnnbkbcpgjaaGreatDoorQBi
/- EntryMemory: where the lists lie that are answered, the list of a batch's lists; the spared copies of a batch's entries; facts that go along with calls that make new memory alone. -/
namespace Go.Proofs.YtpmnnnbkbcpgjaaGreatDoor
open Go.RowKit

theorem decB_no (P : List UInt8) (h : (decB P).e ≠ 0) : (decB P).l = [] := by
  unfold decB at *
  split at h
  · rename_i h1; rw [if_pos h1]; rfl
  · rename_i h1
    rw [if_neg h1]
    split at h
    · rename_i h2; rw [if_pos h2]; rfl
    · rename_i h2
      rw [if_neg h2]
      split at h
      · rename_i h3; rw [if_pos h3]; rfl
      · rename_i h3
        rw [if_neg h3]
        split at h
        · rename_i h4; rw [if_pos h4]; rfl
        · rename_i h4
          rw [if_neg h4]
          unfold batF at *
          split at h
          · rename_i h5; rw [if_pos h5]; rfl
          · rename_i h5
            rw [if_neg h5]
            split at h
            · rename_i h6; rw [if_pos h6]; rfl
            · exact absurd rfl h
theorem decB_small (P : List UInt8) : ∀ x ∈ (decB P).l, x.K.length ≤ 64 ∧ x.V.length ≤ 256 := by
  by_cases h : (decB P).e = 0
  · have h2 : decB P = ⟨0, (decB P).f, (decB P).l⟩ := by
      generalize decB P = t at *
      cases t; simp only at h; subst h; rfl
    exact fun x hx => (fun h => ⟨h.1, h.2.1⟩) (chk_small _ ((encBF_ok _ _ _ (decB_back P _ _ h2)).2.2.2.2 x hx))
  · rw [decB_no P h]
    exact fun x hx => absurd hx (by simp)
theorem decF_small (P : List UInt8) : (decF P).2.K.length ≤ 64 ∧ (decF P).2.V.length ≤ 256 := by
  by_cases h : (decF P).1 = 0
  · have h2 : decF P = (0, (decF P).2) := by rw [← h]
    exact (fun h => ⟨h.1, h.2.1⟩) (chk_small _ (encE_ok _ _ (decF_back P _ h2)).2)
  · unfold decF at *
    split at h
    · rename_i h1; rw [if_pos h1]; exact ⟨Nat.zero_le _, Nat.zero_le _⟩
    · rename_i h1
      rw [if_neg h1]
      split at h
      · rename_i h2; rw [if_pos h2]; exact ⟨Nat.zero_le _, Nat.zero_le _⟩
      · exact absurd rfl h
theorem pair_get {α β : Type} (f g : α → β) (l : List α) (i : Nat) (x : α) (h : l[i]? = some x) : (l.flatMap fun x => [f x, g x])[2 * i]? = some (f x) ∧ (l.flatMap fun x => [f x, g x])[2 * i + 1]? = some (g x) := by
  induction l generalizing i with
  | nil => simp at h
  | cons y ys ih =>
    rw [List.flatMap_cons]
    cases i with
    | zero => simp at h; subst h; simp
    | succ i =>
      have := ih i (by simpa using h)
      rw [show 2 * (i + 1) = 2 * i + 2 by omega, show 2 * i + 2 + 1 = (2 * i + 1) + 2 by omega]
      rw [List.getElem?_append_right (by simp), List.getElem?_append_right (by simp)]
      simpa using this
theorem pair_length {α β : Type} (f g : α → β) (l : List α) : (l.flatMap fun x => [f x, g x]).length = 2 * l.length := by
  induction l with
  | nil => rfl
  | cons y ys ih => rw [List.flatMap_cons, List.length_append, ih]; simp; omega
def kH (x : EnX) : Hd := ⟨x.2.KA, x.1.K.length, x.2.kc⟩
def vH (x : EnX) : Hd := ⟨x.2.VA, x.1.V.length, x.2.vc⟩
def hdsE (es : List EnX) : List Hd := es.flatMap fun x => [kH x, vH x]
theorem hdsE_length (es : List EnX) : (hdsE es).length = 2 * es.length := pair_length _ _ _
theorem hdsE_val (es : List EnX) : (hdsE es).map Hd.val = listV es := by
  induction es with
  | nil => rfl
  | cons x xs ih => simp only [hdsE, listV, List.flatMap_cons, List.map_append] at *; rw [ih]; rfl
theorem hdsE_append (es ds : List EnX) : hdsE (es ++ ds) = hdsE es ++ hdsE ds := List.flatMap_append
theorem hdsE_take (es : List EnX) (i : Nat) (x : EnX) (h : es[i]? = some x) : hdsE (es.take (i + 1)) = hdsE (es.take i) ++ [kH x, vH x] := by
  rw [List.take_add_one, h, hdsE_append]; rfl
theorem SepE.apt {w : World} {base hi : Nat} {es : List EnX} (h : SepE w base es) (hh : w.heap.size ≤ hi) (hl : ∀ x ∈ es, x.1.K.length ≤ 64 ∧ x.1.V.length ≤ 256) : Apt w base hi (hdsE es) := by
  have hm : ∀ g ∈ hdsE es, ∃ x ∈ es, g = kH x ∨ g = vH x := fun g hg => by
    obtain ⟨x, hx, hu⟩ := List.mem_flatMap.1 hg
    exact ⟨x, hx, by simpa using hu⟩
  refine ⟨fun g hg => ?_, fun g hg k hk => ?_, ?_, fun g hg => ?_⟩
  · obtain ⟨x, hx, rfl | rfl⟩ := hm g hg
    · exact ⟨_, h.K x hx⟩
    · exact ⟨_, h.V x hx⟩
  · exact Nat.lt_of_lt_of_le (h.lt _ (by rw [← hdsE_val]; exact List.mem_map_of_mem hg) k hk).2 hh
  · have := h.apart
    rw [← hdsE_val] at this
    exact List.pairwise_map.1 this
  · obtain ⟨x, hx, rfl | rfl⟩ := hm g hg
    · have := (hl x hx).1; show x.1.K.length + 90 ≤ _; omega
    · have := (hl x hx).2; show x.1.V.length + 90 ≤ _; omega
theorem row_at (w : World) (k : Nat) (hk : w.heap.size = k) (C : Array Value) (t : TypeId) (i : Nat) (v : Value) (h : C[i]? = some v) : (w.alloc (.cells C t)).cell? ((⟨k, 0, none⟩ : Addr).add i) = some v := by
  subst hk
  have e := heap_alloc_new w (.cells C t)
  have ea : (⟨w.heap.size, 0, none⟩ : Addr).add i = ⟨w.heap.size, i, none⟩ := by unfold Addr.add; split <;> simp_all
  rw [ea, cell_of_row _ _ _ _ _ _ e]; exact h
theorem apV.ne {u v : Value} (h : apV u v) {k : Nat} (hu : u.ownBlock = some k) : v.ownBlock ≠ some k := fun e => by
  rcases h with h | h
  · rw [h] at hu; cases hu
  · exact h (hu.trans e.symm)
theorem apV.of_lt {u v : Value} {m : Nat} (h : ∀ k, u.ownBlock = some k → k < m) (g : ∀ k, v.ownBlock = some k → m ≤ k) : apV u v := sepV.of_lt h g
def kF (x : EnX) : Hd := ⟨x.2.KA, x.1.K.length + 40, x.2.kc⟩
def vF (x : EnX) : Hd := ⟨x.2.VA, x.1.V.length + 40, x.2.vc⟩
def fulls (es : List EnX) : List Hd := es.flatMap fun x => [kF x, vF x]
theorem fulls_length (es : List EnX) : (fulls es).length = 2 * es.length := pair_length _ _ _
theorem fulls_append (es ds : List EnX) : fulls (es ++ ds) = fulls es ++ fulls ds := List.flatMap_append
theorem mem_fulls {es : List EnX} {h : Hd} (hh : h ∈ fulls es) : ∃ x ∈ es, h = kF x ∨ h = vF x := by
  obtain ⟨x, hx, hu⟩ := List.mem_flatMap.1 hh
  exact ⟨x, hx, by simpa using hu⟩
theorem mem_kF {es : List EnX} {x : EnX} (h : x ∈ es) : kF x ∈ fulls es := List.mem_flatMap.2 ⟨x, h, by simp⟩
theorem mem_vF {es : List EnX} {x : EnX} (h : x ∈ es) : vF x ∈ fulls es := List.mem_flatMap.2 ⟨x, h, by simp⟩
theorem OB.someB {w : World} {base e n c : Nat} {A : Option Addr} {p : List UInt8} (h : OB w base e (.slice A n c) p) (a : Addr) (ha : A = some a) : (Value.slice A n c).ownBlock = some a.block := by
  rcases h.out.2 with ⟨h0, _⟩ | ⟨g, cap, cur, hv, _⟩
  · injection h0 with e1; rw [ha] at e1; cases e1
  · injection hv with e1; rw [ha] at e1; obtain rfl := Option.some.inj e1; rw [ha]; rfl
theorem EL.far2 {w w' : World} {base n : Nat} {v : Value} {es : List EnX} {row : Option Nat} (h : EL w base v n es) (hg : w.grownBy w' row) (hne : v.ownBlock = none ∨ v.ownBlock ≠ row) (hK : ∀ x ∈ es, ∀ a, x.2.KA = some a → some a.block ≠ row) (hV : ∀ x ∈ es, ∀ a, x.2.VA = some a → some a.block ≠ row) : EL w' base v n es :=
  ⟨h.row.kept hg hne, h.len, fun x hx => ⟨(h.ok x hx).k, (h.ok x hx).K.keep fun a e hp => hg.block _ ((h.ok x hx).K.old.out a e hp) (hK x hx a e), (h.ok x hx).V.keep fun a e hp => hg.block _ ((h.ok x hx).V.old.out a e hp) (hV x hx a e)⟩, h.far⟩
/-- the list of the lists (va) of the entries; the list of the entries ds (Ac); what they stand in, all apart -/
structure Lp (w : World) (B : Nat) (va : Value) (ls : List EnX) (i : Nat) (Ac : Option Addr) (cc : Nat) (ds : List EnX) : Prop where
  ll : LL w B va (fulls ls)
  el : EL w B (.slice Ac i cc) i ds
  K : ∀ x ∈ ds, OB w B 5 (kF x).val (x.1.K ++ marks 40)
  V : ∀ x ∈ ds, OB w B 5 (vF x).val (x.1.V ++ marks 40)
  apart : (fulls ds).Pairwise fun g h => apV g.val h.val
  farA : ∀ h ∈ fulls ds, apV h.val va
  farC : ∀ h ∈ fulls ds, apV h.val (.slice Ac i cc)
  ac : apV va (.slice Ac i cc)
theorem Lp.nil (w : World) (B : Nat) : Lp w B (.slice none 0 0) [] 0 none 0 [] :=
  ⟨LL.nil w B, EL.nil w B, fun x hx => absurd hx (by simp), fun x hx => absurd hx (by simp), List.Pairwise.nil, fun x hx => absurd hx (by simp [fulls]), fun x hx => absurd hx (by simp [fulls]), .inl rfl⟩
theorem Lp.keep {w w' : World} {B i cc : Nat} {va : Value} {ls ds : List EnX} {Ac : Option Addr} (h : Lp w B va ls i Ac cc ds) (hk : ∀ k, B ≤ k → k < w.heap.size → w'.heap[k]? = w.heap[k]?) : Lp w' B va ls i Ac cc ds :=
  ⟨h.ll.kept hk, h.el.keep hk, fun x hx => (h.K x hx).same fun k e => hk k ((h.K x hx).at_base k e).1 ((h.K x hx).at_base k e).2, fun x hx => (h.V x hx).same fun k e => hk k ((h.V x hx).at_base k e).1 ((h.V x hx).at_base k e).2, h.apart, h.farA, h.farC, h.ac⟩
theorem Lp.new {w w' : World} {B i cc : Nat} {va : Value} {ls ds : List EnX} {Ac : Option Addr} (h : Lp w B va ls i Ac cc ds) (hb : Below w.heap.size w w') : Lp w' B va ls i Ac cc ds := h.keep fun k _ hk => hb.block k hk
theorem Lp.setLow {w : World} {B i cc g j : Nat} {va u : Value} {ls ds : List EnX} {Ac : Option Addr} (h : Lp w B va ls i Ac cc ds) (hg : g < B) : Lp (w.setCell ⟨g, j, none⟩ u) B va ls i Ac cc ds := h.keep fun k h1 h2 => (setCell_grown w g j u).block k h2 (fun e => by have := Option.some.inj e; omega)
theorem Lp.grownLow {w w' : World} {B i cc g : Nat} {va : Value} {ls ds : List EnX} {Ac : Option Addr} (h : Lp w B va ls i Ac cc ds) (hw : w.grownBy w' (some g)) (hg : g < B) : Lp w' B va ls i Ac cc ds := h.keep fun k h1 h2 => hw.block k h2 (fun e => by have := Option.some.inj e; omega)
theorem Lp.lt {w : World} {B i cc : Nat} {va : Value} {ls ds : List EnX} {Ac : Option Addr} (h : Lp w B va ls i Ac cc ds) : ∀ u ∈ fulls ds, ∀ k, u.val.ownBlock = some k → B ≤ k ∧ k < w.heap.size := fun u hu k hk => by
  obtain ⟨x, hx, rfl | rfl⟩ := mem_fulls hu
  · exact (h.K x hx).at_base k hk
  · exact (h.V x hx).at_base k hk
/-- the entry x behind the entries -/
theorem Lp.pushC {w w' : World} {B i cc cc' m : Nat} {va : Value} {ls ds : List EnX} {Ac Ac' : Option Addr} {x : EnX} (h : Lp w B va ls i Ac cc ds) (hm : B ≤ m) (hlt : ∀ u ∈ fulls ds, ∀ k, u.val.ownBlock = some k → k < m) (hva : ∀ k, va.ownBlock = some k → k < m) (hvc : ∀ k, (Value.slice Ac i cc).ownBlock = some k → k < m)
    (hK : OB w m 5 (kF x).val (x.1.K ++ marks 40)) (hV : OB w m 5 (vF x).val (x.1.V ++ marks 40)) (hkv : apV (kF x).val (vF x).val)
    (hel : EL w' B (.slice Ac' (i + 1) cc') (i + 1) (ds ++ [x])) (hg : w.grownBy w' (Value.slice Ac i cc).ownBlock) (ho : (Value.slice Ac' (i + 1) cc').ownBlock = (Value.slice Ac i cc).ownBlock ∨ (Value.slice Ac' (i + 1) cc').ownBlock = some w.heap.size) : Lp w' B va ls (i + 1) Ac' cc' (ds ++ [x]) := by
  have hkl : ∀ k, (kF x).val.ownBlock = some k → m ≤ k := fun k e => (hK.at_base k e).1
  have hvl : ∀ k, (vF x).val.ownBlock = some k → m ≤ k := fun k e => (hV.at_base k e).1
  have e1 : fulls (ds ++ [x]) = fulls ds ++ [kF x, vF x] := by rw [fulls_append]; rfl
  have hck : apV (kF x).val (.slice Ac i cc) := (apV.of_lt hvc hkl).symm
  have hcv : apV (vF x).val (.slice Ac i cc) := (apV.of_lt hvc hvl).symm
  have hk : ∀ u : Value, apV u (.slice Ac i cc) → ∀ k, k < w.heap.size → u.ownBlock = some k → w'.heap[k]? = w.heap[k]? := fun u hu k hk e => hg.block k hk (fun e9 => hu.ne e e9.symm)
  have hrow : ∀ u : Value, apV u (.slice Ac i cc) → (∀ k, u.ownBlock = some k → k < w.heap.size) → apV u (.slice Ac' (i + 1) cc') := fun u hu hl => by
    rcases ho with e | e
    · exact hu.imp id fun h9 => by rw [e]; exact h9
    · exact apV.of_lt hl fun k hk => by rw [e] at hk; exact Nat.le_of_eq (Option.some.inj hk)
  have hall : ∀ u ∈ fulls (ds ++ [x]), apV u.val (.slice Ac i cc) ∧ apV u.val va ∧ ∀ k, u.val.ownBlock = some k → k < w.heap.size := fun u hu => by
    rw [e1] at hu
    rcases List.mem_append.1 hu with hu | hu
    · exact ⟨h.farC u hu, h.farA u hu, fun k e => (h.lt u hu k e).2⟩
    · simp only [List.mem_cons, List.not_mem_nil, or_false] at hu
      rcases hu with rfl | rfl
      · exact ⟨hck, (apV.of_lt hva hkl).symm, fun k e => (hK.at_base k e).2⟩
      · exact ⟨hcv, (apV.of_lt hva hvl).symm, fun k e => (hV.at_base k e).2⟩
  refine ⟨⟨h.ll.out.kept hg h.ac⟩, hel, fun y hy => ?_, fun y hy => ?_, ?_, fun u hu => (hall u hu).2.1, fun u hu => hrow _ (hall u hu).1 (hall u hu).2.2, hrow _ h.ac fun k e => (h.ll.lt k e).2⟩
  · rcases List.mem_append.1 hy with h9 | h9
    · exact (h.K y h9).same fun k e => hk _ (hall _ (mem_kF hy)).1 k ((h.K y h9).at_base k e).2 e
    · obtain rfl := List.mem_singleton.1 h9
      exact (hK.mono hm).same fun k e => hk _ hck k (hK.at_base k e).2 e
  · rcases List.mem_append.1 hy with h9 | h9
    · exact (h.V y h9).same fun k e => hk _ (hall _ (mem_vF hy)).1 k ((h.V y h9).at_base k e).2 e
    · obtain rfl := List.mem_singleton.1 h9
      exact (hV.mono hm).same fun k e => hk _ hcv k (hV.at_base k e).2 e
  · rw [e1]
    refine List.pairwise_append.2 ⟨h.apart, by simp [hkv], fun a ha b hb => ?_⟩
    simp only [List.mem_cons, List.not_mem_nil, or_false] at hb
    rcases hb with rfl | rfl
    · exact apV.of_lt (hlt a ha) hkl
    · exact apV.of_lt (hlt a ha) hvl
/-- its lists behind the lists -/
theorem Lp.pushA {w w' : World} {B i cc : Nat} {va va' : Value} {ls ds : List EnX} {Ac : Option Addr} (h : Lp w B va ls i Ac cc ds) (hll : LL w' B va' (fulls ds)) (hg : w.grownBy w' va.ownBlock) (ho : va'.ownBlock = va.ownBlock ∨ va'.ownBlock = some w.heap.size) : Lp w' B va' ds i Ac cc ds := by
  have hk : ∀ u : Value, apV u va → ∀ k, k < w.heap.size → u.ownBlock = some k → w'.heap[k]? = w.heap[k]? := fun u hu k hk e => hg.block k hk (fun e9 => hu.ne e e9.symm)
  have hrow : ∀ u : Value, apV u va → (∀ k, u.ownBlock = some k → k < w.heap.size) → apV u va' := fun u hu hl => by
    rcases ho with e | e
    · exact hu.imp id fun h9 => by rw [e]; exact h9
    · exact apV.of_lt hl fun k hk => by rw [e] at hk; exact Nat.le_of_eq (Option.some.inj hk)
  refine ⟨hll, h.el.far2 hg h.ac.symm (fun x hx a e e9 => ?_) (fun x hx a e e9 => ?_), fun y hy => (h.K y hy).same fun k e => hk _ (h.farA _ (mem_kF hy)) k ((h.K y hy).at_base k e).2 e, fun y hy => (h.V y hy).same fun k e => hk _ (h.farA _ (mem_vF hy)) k ((h.V y hy).at_base k e).2 e, h.apart, fun u hu => hrow _ (h.farA u hu) fun k e => (h.lt u hu k e).2, h.farC, (hrow _ h.ac.symm fun k e => (h.el.lt k e).2).symm⟩
  · exact (h.farA _ (mem_kF hx)).ne ((h.K x hx).someB a e) e9.symm
  · exact (h.farA _ (mem_vF hx)).ne ((h.V x hx).someB a e) e9.symm
theorem Lp.apt {w : World} {B i cc hi : Nat} {va : Value} {ls ds : List EnX} {Ac : Option Addr} (h : Lp w B va ls i Ac cc ds) (hh : w.heap.size ≤ hi) (hl : ∀ x ∈ ds, x.1.K.length + 130 ≤ 140737488355328 ∧ x.1.V.length + 130 ≤ 140737488355328) : Apt w B hi (fulls ds) := by
  refine ⟨fun g hg => ?_, fun g hg k hk => Nat.lt_of_lt_of_le (h.lt g hg k hk).2 hh, h.apart, fun g hg => ?_⟩
  · obtain ⟨x, hx, rfl | rfl⟩ := mem_fulls hg
    · exact ⟨_, h.K x hx⟩
    · exact ⟨_, h.V x hx⟩
  · obtain ⟨x, hx, rfl | rfl⟩ := mem_fulls hg
    · have := (hl x hx).1; show x.1.K.length + 40 + 90 ≤ _; omega
    · have := (hl x hx).2; show x.1.V.length + 40 + 90 ≤ _; omega
/-- one of the lists is written over -/
theorem Apt.over {w w' : World} {lo hi g : Nat} {hs : List Hd} (h : Apt w lo hi hs) (i : Nat) (x : Hd) (hx : hs[i]? = some x) (hb : x.val.ownBlock = some g) (q : List UInt8) (ho : OB w' lo 5 x.val q) (hg : w.grownBy w' (some g)) : Apt w' lo hi hs := by
  refine ⟨fun y hy => ?_, h.lt, h.apart, h.len⟩
  obtain ⟨hi', e⟩ := List.getElem?_eq_some_iff.1 hx
  obtain ⟨j, hj, rfl⟩ := List.getElem_of_mem hy
  by_cases hij : j = i
  · subst hij; rw [e]; exact ⟨q, ho⟩
  · obtain ⟨p, hp⟩ := h.own _ hy
    have hap : apV hs[j].val x.val := by
      rw [← e]
      rcases Nat.lt_or_gt_of_ne hij with h1 | h1
      · exact List.pairwise_iff_getElem.1 h.apart j i hj hi' h1
      · exact (List.pairwise_iff_getElem.1 h.apart i j hi' hj h1).symm
    exact ⟨p, hp.keep hg (hap.imp id fun h9 => by rw [← hb]; exact h9)⟩
/-- a call that may write one block of those that stand -/
def Wr1 (g : Nat) (a b : World) : Prop := Step a b (· = g) (· = g)
theorem Wr1.new {g : Nat} {a b : World} (h : Below a.heap.size a b) : Wr1 g a b := Step.of_below h _
theorem Wr1.row {g : Nat} {a b : World} (h : a.grownBy b (some g)) : Wr1 g a b := Step.of_grown h rfl
theorem Wr1.trans {g : Nat} {a b c : World} (h : Wr1 g a b) (k : Wr1 g b c) : Wr1 g a c := Step.trans h k
theorem Wr1.alloc (g : Nat) (a : World) (o : Obj) : Wr1 g a (a.alloc o) := Wr1.new (below_alloc1 (Below.refl _ _) (Nat.le_refl _) o)
theorem mvOB {g base e : Nat} {v : Value} {p : List UInt8} (hg : g < base) {w : World} (h : OB w base e v p) : Mv (Wr1 g) (fun a => OB a base e v p) w := by
  refine ⟨h, fun a b hs h => ⟨h.out.1, ?_⟩⟩
  rcases h.out.2 with h1 | ⟨k, cap, cur, e1, hb, hh, r⟩
  · exact .inl h1
  · exact .inr ⟨k, cap, cur, e1, hb, (hs.block k (Array.getElem?_eq_some_iff.1 hh).1 (by show ¬ k = g; omega)).trans hh, r⟩
theorem mvRB {g : Nat} {A : Option Addr} {c : Nat} {p : List UInt8} (hf : Free (· = g) A p) {w : World} (h : RB w A c p) : Mv (Wr1 g) (fun a => RB a A c p) w := ⟨h, fun _ _ hs h => h.step hs hf⟩
theorem mvB {w : World} {g : Nat} (hg : w.heap.size ≤ g) {a : World} (h : Below w.heap.size w a) (h2 : g < a.heap.size) : Mv (Wr1 g) (fun a => Below w.heap.size w a ∧ g < a.heap.size) a := by
  refine ⟨⟨h, h2⟩, ?_⟩
  rintro a b hs ⟨h1, h2⟩
  refine ⟨⟨hs.os.trans h1.os, hs.tape.trans h1.tape, hs.output.trans h1.output, Nat.le_trans h1.size hs.size, fun k hk => (hs.block k (Nat.lt_of_lt_of_le hk h1.size) (by show ¬ k = g; omega)).trans (h1.block k hk)⟩, Nat.lt_of_lt_of_le h2 hs.size⟩
theorem mvS {g n : Nat} {w : World} (h : n ≤ w.heap.size) : Mv (Wr1 g) (fun a => n ≤ a.heap.size) w := ⟨h, fun _ _ hs h => Nat.le_trans h hs.size⟩
/-- below hi all stays -/
theorem mv2S {h n : Nat} {w : World} (hn : n ≤ w.heap.size) : Mv (Below h) (fun a => n ≤ a.heap.size) w := ⟨hn, fun _ _ hs h => Nat.le_trans h hs.size⟩
theorem mv2B {w : World} {hi : Nat} (hw : w.heap.size ≤ hi) {a : World} (h : Below w.heap.size w a) : Mv (Below hi) (fun a => Below w.heap.size w a) a := ⟨h, fun a b hs h => ⟨hs.os.trans h.os, hs.tape.trans h.tape, hs.output.trans h.output, Nat.le_trans h.size hs.size, fun k hk => (hs.block k (by omega)).trans (h.block k hk)⟩⟩
theorem SepE.new {w w' : World} {base : Nat} {es : List EnX} (h : SepE w base es) (hb : Below w.heap.size w w') : SepE w' base es := h.keep fun u hu k hk => hb.block k (h.lt u hu k hk).2
theorem SepE.ok1 {w : World} {base : Nat} {e : En} {a : EnA} (h : SepE w base [(e, a)]) (hk : e.k ≤ 255) : EnOk w e a := ⟨hk, (h.K _ (List.mem_singleton.2 rfl)).rb, (h.V _ (List.mem_singleton.2 rfl)).rb⟩
theorem bgSep {w : World} {base : Nat} {es : List EnX} (h : SepE w base es) : Mv Bl (fun a => SepE a base es) w := ⟨h, fun _ _ r h => h.new r⟩
theorem bgOk {w : World} {e : En} {a : EnA} (h : EnOk w e a) : Mv Bl (fun w => EnOk w e a) w := ⟨h, fun _ _ r h => h.new r⟩
theorem bgApt {w : World} {lo hi : Nat} {hs : List Hd} (h : Apt w lo hi hs) (hh : hi ≤ w.heap.size) : Mv Bl (fun a => Apt a lo hi hs ∧ hi ≤ a.heap.size) w := ⟨⟨h, hh⟩, fun _ _ r h => ⟨h.1.new r h.2, Nat.le_trans h.2 r.size⟩⟩
theorem bgLp {w : World} {B i cc : Nat} {va : Value} {ls ds : List EnX} {Ac : Option Addr} (h : Lp w B va ls i Ac cc ds) : Mv Bl (fun w => Lp w B va ls i Ac cc ds) w := ⟨h, fun _ _ r h => h.new r⟩
theorem spareX (A : Option Addr) (p : List UInt8) (n c : Nat) (w : World) (hp : RB w A c p) (hn : n = p.length) (hl : p.length ≤ 140737488355328) :
    Calls Tryz.prog 32 #[.slice A n c] w fun e w' => ∃ g, e = .returned (.tuple #[.slice (some ⟨g, 0, none⟩) p.length (p.length + 40), .slice (some ⟨g, 0, none⟩) (p.length + 40) (p.length + 40)]) ∧ g = w.heap.size ∧ OB w' g 5 (.slice (some ⟨g, 0, none⟩) (p.length + 40) (p.length + 40)) (p ++ marks 40) ∧ Below w.heap.size w w' := by
  subst hn
  exact (spare_calls A p c w hp hl).mono fun e w' ⟨h1, h2⟩ => ⟨_, h1, rfl, h2.own, h2.below⟩
theorem NewE.sep {w w' : World} {e : En} {a : EnA} (h : NewE w w' e a) (hkv : sepV (.slice a.KA e.K.length a.kc) (.slice a.VA e.V.length a.vc)) : SepE w' w.heap.size [(e, a)] :=
  ⟨fun x hx => by obtain rfl := List.mem_singleton.1 hx; exact h.K, fun x hx => by obtain rfl := List.mem_singleton.1 hx; exact h.V, by
    show [kV (e, a), vV (e, a)].Pairwise sepV
    simp only [List.pairwise_cons, List.mem_cons, List.not_mem_nil, or_false, forall_eq, List.Pairwise.nil, and_true, false_imp_iff, implies_true]
    exact hkv⟩
theorem Apt.perm {w : World} {lo hi : Nat} {hs gs : List Hd} (h : Apt w lo hi hs) (p : hs.Perm gs) : Apt w lo hi gs :=
  ⟨fun x hx => h.own x (p.mem_iff.2 hx), fun x hx => h.lt x (p.mem_iff.2 hx), (p.pairwise_iff (fun h => apV.symm h)).1 h.apart, fun x hx => h.len x (p.mem_iff.2 hx)⟩
/-- a whole row, alone -/
theorem Apt.at_ {w : World} {g m c : Nat} {p : List UInt8} (h : OB w g 5 (.slice (some ⟨g, 0, none⟩) m c) p) (hl : m + 90 ≤ 140737488355328) : Apt w g (g + 1) [⟨some ⟨g, 0, none⟩, m, c⟩] := by
  refine ⟨fun x hx => ?_, fun x hx k hk => ?_, List.pairwise_singleton _ _, fun x hx => ?_⟩ <;> obtain rfl := List.mem_singleton.1 hx
  · exact ⟨p, h⟩
  · obtain rfl := Option.some.inj hk; exact Nat.lt_succ_self _
  · exact hl
/-- two boxes are filled -/
def put5 (X : World) (b c : Nat) (x y p q r : Value) : World := ((((X.setCell ⟨b, 0, none⟩ x).setCell ⟨b, 1, none⟩ y).setCell ⟨c, 0, none⟩ p).setCell ⟨c, 1, none⟩ q).setCell ⟨c, 2, none⟩ r
theorem put5_block (X : World) (b c : Nat) (x y p q r : Value) (k : Nat) (hb : k ≠ b) (hc : k ≠ c) : (put5 X b c x y p q r).heap[k]? = X.heap[k]? := by
  unfold put5
  rw [heap_setCell_other _ _ _ _ hc, heap_setCell_other _ _ _ _ hc, heap_setCell_other _ _ _ _ hc, heap_setCell_other _ _ _ _ hb, heap_setCell_other _ _ _ _ hb]
theorem r10_end {w9 w10 w11 X : World} {Q : World → Prop} {b15 b16 m10 m11 lo n c10 tf nk nv kc vc : Nat} {A10 KA VA : Option Addr} {ds : List EnX} {x0 y0 p0 q0 r0 : Value} {kv : Int} {K V : List UInt8} (HQ : Mv Bl Q w9) (B : Below w9.heap.size w9 X) (q15 : Duo X b15 x0 y0) (q16 : Trio X b16 p0 q0 r0) (hE : EL w10 m10 (.slice A10 n c10) n ds) (E : Below w10.heap.size w10 X)
    (hK : OB w11 m11 5 (.slice KA nk kc) K) (hV : OB w11 m11 5 (.slice VA nv vc) V) (N : Below w11.heap.size w11 X) (hne : b15 ≠ b16) (l15 : w9.heap.size ≤ b15) (l16 : w9.heap.size ≤ b16) (e15 : b15 < m10 ∨ w10.heap.size ≤ b15) (e16 : b16 < m10 ∨ w10.heap.size ≤ b16) (d15 : b15 < m11 ∨ w11.heap.size ≤ b15) (d16 : b16 < m11 ∨ w11.heap.size ≤ b16) (h10 : lo ≤ m10) (h11 : lo ≤ m11) :
    Mv Bl (fun a => Q a ∧ Duo a b15 (.int .u64 tf) (.slice A10 n c10) ∧ Trio a b16 (.int .u8 kv) (.slice KA nk kc) (.slice VA nv vc) ∧ EL a lo (.slice A10 n c10) n ds ∧ OB a lo 5 (.slice KA nk kc) K ∧ OB a lo 5 (.slice VA nv vc) V) (put5 X b15 b16 (.int .u64 tf) (.slice A10 n c10) (.int .u8 kv) (.slice KA nk kc) (.slice VA nv vc)) := by
  have hd := (((q15.set0 (.int .u64 tf)).set1 (.slice A10 n c10)).other (g := b16) (j := 0) (u := .int .u8 kv) hne).other (g := b16) (j := 1) (u := .slice KA nk kc) hne |>.other (g := b16) (j := 2) (u := .slice VA nv vc) hne
  have ht := ((((q16.other (g := b15) (j := 0) (u := .int .u64 tf) (Ne.symm hne)).other (g := b15) (j := 1) (u := .slice A10 n c10) (Ne.symm hne)).set0 (.int .u8 kv)).set1 (.slice KA nk kc)).set2 (.slice VA nv vc)
  have hB : Below w9.heap.size w9 (put5 X b15 b16 (.int .u64 tf) (.slice A10 n c10) (.int .u8 kv) (.slice KA nk kc) (.slice VA nv vc)) :=
    ((((B.setCell l15 _).setCell l15 _).setCell l16 _).setCell l16 _).setCell l16 _
  refine (HQ.step hB).and ((bgDuo hd).and ((bgTrio ht).and ((bgEL ((hE.keep fun k h1 h2 => ?_).monoK h10)).and ((bgOB ((hK.same fun k e => ?_).mono h11)).and (bgOB ((hV.same fun k e => ?_).mono h11))))))
  · exact (put5_block X b15 b16 _ _ _ _ _ k (by omega) (by omega)).trans (E.block k h2)
  · have := hK.at_base k e
    exact (put5_block X b15 b16 _ _ _ _ _ k (by omega) (by omega)).trans (N.block k this.2)
  · have := hV.at_base k e
    exact (put5_block X b15 b16 _ _ _ _ _ k (by omega) (by omega)).trans (N.block k this.2)
theorem farNew {lo m gK gV kc vc : Nat} {v : Value} {o : En} (hv : ∀ k, v.ownBlock = some k → k < m) (hlo : lo ≤ m) (hK : m ≤ gK) (hV : m ≤ gV) : FarE lo v (o, ⟨some ⟨gK, 0, none⟩, kc, some ⟨gV, 0, none⟩, vc⟩) :=
  ⟨fun a e _ => by obtain rfl := Option.some.inj e; exact ⟨Nat.le_trans hlo hK, fun e9 => by have := hv _ e9; simp only at this; omega⟩, fun a e _ => by obtain rfl := Option.some.inj e; exact ⟨Nat.le_trans hlo hV, fun e9 => by have := hv _ e9; simp only at this; omega⟩⟩
theorem apG {g k m n c d : Nat} (h : g ≠ k) : apV (.slice (some ⟨g, 0, none⟩) m c) (.slice (some ⟨k, 0, none⟩) n d) := .inr fun e => h (Option.some.inj e)
theorem encBF_smallK (f : Nat) (l : List En) : (encBF f l).1.length ≤ 30000 := by
  by_cases h : (encBF f l).2 = 0
  · have h2 : encBF f l = ((encBF f l).1, 0) := by rw [← h]
    obtain ⟨h3, _, _, h4, h5⟩ := encBF_ok f l _ h2
    have h6 := flat_le l h5
    have h7 := WireMath.uvarL_length f
    have h8 := WireMath.uvarL_length l.length
    rw [h3]
    unfold encBL
    simp only [List.length_append]
    omega
  · unfold encBF at *
    split at h
    · exact absurd rfl h
    · rename_i h1; rw [if_neg h1]; exact Nat.zero_le _
theorem ensOf_at {es ds : List EnX} (h : ensOf ds = ensOf es) (i : Nat) (o : En) (x : EnA) (ho : es[i]? = some (o, x)) : ∃ a, ds[i]? = some (o, a) := by
  have h1 : (ensOf ds)[i]? = some o := by rw [h]; unfold ensOf; rw [List.getElem?_map, ho]; rfl
  unfold ensOf at h1
  rw [List.getElem?_map] at h1
  cases hd : ds[i]? with
  | none => rw [hd] at h1; cases h1
  | some y => rw [hd] at h1; obtain rfl := Option.some.inj h1; exact ⟨y.2, rfl⟩
theorem cell_newM {w w' : World} {a : Addr} {v : Value} (hb : Below w.heap.size w w') (h : w.cell? a = some v) : w'.cell? a = some v := (hb.cell (World.block_lt_of_cell? w _ h)).trans h
theorem fulls_at (ds : List EnX) (i : Nat) (hi : i < (fulls ds).length) : ∃ h, (fulls ds)[i]? = some h ∧ h ∈ fulls ds ∧ 40 ≤ h.n := by
  have h1 := List.getElem_mem hi
  refine ⟨_, List.getElem?_eq_getElem hi, h1, ?_⟩
  obtain ⟨x, _, e | e⟩ := mem_fulls h1
  · rw [e]; exact Nat.le_add_left _ _
  · rw [e]; exact Nat.le_add_left _ _
/-- all that stood still stands, but for the blocks F -/
structure Agr (F : Nat → Prop) (a b : World) : Prop where
  size : a.heap.size ≤ b.heap.size
  block : ∀ k, k < a.heap.size → ¬ F k → b.heap[k]? = a.heap[k]?
theorem Agr.refl (F : Nat → Prop) (a : World) : Agr F a a := ⟨Nat.le_refl _, fun _ _ _ => rfl⟩
theorem Agr.step {F : Nat → Prop} {a b c : World} (h : Agr F a b) (r : Bl b c) : Agr F a c := ⟨Nat.le_trans h.size r.size, fun k hk hf => (r.block k (Nat.lt_of_lt_of_le hk h.size)).trans (h.block k hk hf)⟩
theorem Agr.grown {F : Nat → Prop} {a b c : World} {g : Nat} (h : Agr F a b) (r : b.grownBy c (some g)) (hg : F g) : Agr F a c := ⟨Nat.le_trans h.size r.size, fun k hk hf => (r.block k (Nat.lt_of_lt_of_le hk h.size) (fun e => hf (by have := Option.some.inj e; rw [this]; exact hg))).trans (h.block k hk hf)⟩
theorem Agr.weak {F G : Nat → Prop} {a b : World} (h : Agr F a b) (hg : ∀ k, F k → G k) : Agr G a b := ⟨h.size, fun k hk hf => h.block k hk (fun e => hf (hg k e))⟩
theorem bgAgr {F : Nat → Prop} {a b : World} (h : Agr F a b) : Mv Bl (fun c => Agr F a c) b := ⟨h, fun _ _ r h => h.step r⟩
theorem bits_xor_u8M (a b : UInt8) : bits .xor .u8 (uB a) (uB b) = uB (a ^^^ b) := by
  show IntKind.u8.wrap ((BitVec.ofInt 8 (uB a) ^^^ BitVec.ofInt 8 (uB b)).toNat : Int) = _
  have h : ∀ c : UInt8, BitVec.ofInt 8 (uB c) = c.toBitVec := by
    intro c
    apply BitVec.eq_of_toNat_eq
    unfold uB
    rw [BitVec.ofInt_natCast]
    simp
  rw [h, h, ← UInt8.toBitVec_xor]
  have := (a ^^^ b).toNat_lt
  rw [IntKind.wrap_u8]
  show ((a ^^^ b).toNat : Int) % 256 = uB (a ^^^ b)
  unfold uB
  omega
set_option maxRecDepth 100000 in
/-- Apart of lists that lie apart, in a row that lies in none of their blocks -/
theorem apartM (lo hi : Nat) (a : Option Addr) (hs : List Hd) (n c : Nat) (w : World) (h : Apt w lo hi hs) (hhi : hi ≤ w.heap.size) (hlo : lo ≤ w.heap.size) (hn : n = hs.length) (hc : ∀ (i : Nat) (x : Hd), hs[i]? = some x → ∃ b : Addr, a = some b ∧ w.cell? (b.add i) = some x.val ∧ ∀ y ∈ hs, y.val.ownBlock ≠ some b.block) (hl : hs.length ≤ 5100000000000) :
    Calls Tryz.prog 36 #[.slice a n c] w fun e w' => e = .returned (.bool true) ∧ Below lo w w' := by
  have hP : ∃ P : Nat → List UInt8, ∀ (i : Nat) (x : Hd), hs[i]? = some x → OB w lo 5 x.val (P i) := by
    have : ∀ i : Nat, ∃ p : List UInt8, ∀ x : Hd, hs[i]? = some x → OB w lo 5 x.val p := by
      intro i
      cases he : hs[i]? with
      | none => exact ⟨[], fun x hx => by cases hx⟩
      | some y =>
        obtain ⟨p, hp⟩ := h.own y (List.mem_of_getElem? he)
        exact ⟨p, fun x hx => by obtain rfl := Option.some.inj hx; exact hp⟩
    exact ⟨fun i => (this i).choose, fun i x hx => (this i).choose_spec x hx⟩
  obtain ⟨P, hP⟩ := hP
  have HA : AP w lo w.heap.size a hs P := by
    refine ⟨fun i x hx => ?_, hP, fun i x k hx hk => Nat.lt_of_lt_of_le (h.lt x (List.mem_of_getElem? hx) k hk) hhi, fun i j x y hx hy hij => ?_, fun i x hx => h.len x (List.mem_of_getElem? hx)⟩
    · obtain ⟨b, e1, e2, e3⟩ := hc i x hx
      have hbl : b.block < w.heap.size := by have := World.block_lt_of_cell? w _ e2; rwa [block_add] at this
      exact ⟨b, e1, e2, hbl, fun j y hy => e3 y (List.mem_of_getElem? hy)⟩
    · obtain ⟨hi', rfl⟩ := List.getElem?_eq_some_iff.1 hx
      obtain ⟨hj', rfl⟩ := List.getElem?_eq_some_iff.1 hy
      rcases Nat.lt_or_gt_of_ne hij with h1 | h1
      · exact List.pairwise_iff_getElem.1 h.apart i j hi' hj' h1
      · exact (List.pairwise_iff_getElem.1 h.apart j i hj' hi' h1).symm
  refine (apart_calls lo a hs P n c w HA hlo hn hl).mono fun e w' ⟨h1, _, h3⟩ => ⟨h1, h3.below hlo ?_⟩
  rintro k ⟨i, x, hx, hk⟩
  exact ((hP i x hx).at_base k hk).1
theorem Apt.far {w w' : World} {lo hi : Nat} {hs : List Hd} {v : Value} (h : Apt w lo hi hs) (hg : w.grownBy w' v.ownBlock) (hv : ∀ x ∈ hs, apV (Hd.val x) v) : Apt w' lo hi hs :=
  ⟨fun x hx => (h.own x hx).imp fun _ hp => hp.keep hg (hv x hx), h.lt, h.apart, h.len⟩
theorem apV.row {u v v' : Value} {m : Nat} (h : apV u v) (hu : ∀ k, u.ownBlock = some k → k < m) (ho : v'.ownBlock = v.ownBlock ∨ v'.ownBlock = some m) : apV u v' := by
  rcases ho with e | e
  · exact h.imp id fun h9 => by rw [e]; exact h9
  · exact apV.of_lt hu fun k hk => by rw [e] at hk; exact Nat.le_of_eq (Option.some.inj hk)
theorem OB.notBox {w : World} {g m c n k b d : Nat} {p : List UInt8} {A : Option Addr} (h : OB w b 5 (.slice (some ⟨g, 0, none⟩) m c) p) (hp : 1 < p.length) (hc : w.cell? ⟨k, 1, none⟩ = some (.slice A n d)) : k ≠ g := fun e => by
  subst e
  have := (h.cell 1 hp).1
  rw [hc] at this
  cases this
/-- what stood from lo to hi at a stands -/
structure Fix (lo hi : Nat) (a b : World) : Prop where
  size : hi ≤ b.heap.size
  block : ∀ k, lo ≤ k → k < hi → b.heap[k]? = a.heap[k]?
theorem bgFix {lo hi : Nat} {a b : World} (h : Fix lo hi a b) : Mv Bl (fun c => Fix lo hi a c) b := ⟨h, fun _ _ r h => ⟨Nat.le_trans h.size r.size, fun k h1 h2 => (r.block k (Nat.lt_of_lt_of_le h2 h.size)).trans (h.block k h1 h2)⟩⟩
theorem Fix.grown {lo hi : Nat} {a b c : World} {row : Option Nat} (h : Fix lo hi a b) (r : b.grownBy c row) (hr : ∀ k, row = some k → hi ≤ k) : Fix lo hi a c :=
  ⟨Nat.le_trans h.size r.size, fun k h1 h2 => (r.block k (Nat.lt_of_lt_of_le h2 h.size) (fun e => by have := hr k e.symm; omega)).trans (h.block k h1 h2)⟩
theorem Fix.el {lo n : Nat} {v : Value} {es : List EnX} {a b : World} (h : Fix lo a.heap.size a b) (x : EL a lo v n es) : EL b lo v n es := x.keep fun k h1 h2 => h.block k h1 h2
theorem Fix.duo {lo g : Nat} {x y : Value} {a b : World} (h : Fix lo a.heap.size a b) (d : Duo a g x y) (hg : lo ≤ g) : Duo b g x y := d.keep (h.block g hg d.lt)
theorem Fix.trio {lo g : Nat} {x y z : Value} {a b : World} (h : Fix lo a.heap.size a b) (d : Trio a g x y z) (hg : lo ≤ g) : Trio b g x y z := d.keep (h.block g hg d.lt)
theorem Fix.ob {lo e : Nat} {v : Value} {p : List UInt8} {a b : World} (h : Fix lo a.heap.size a b) (o : OB a lo e v p) : OB b lo e v p := o.same fun k hk => h.block k (o.at_base k hk).1 (o.at_base k hk).2
theorem Fix.apt {lo l1 h1 : Nat} {hs : List Hd} {a b : World} (h : Fix lo a.heap.size a b) (o : Apt a l1 h1 hs) (hl : lo ≤ l1) (hh : h1 ≤ a.heap.size) : Apt b l1 h1 hs := o.keep fun k h1 h2 => h.block k (by omega) (by omega)
theorem bgLL {w : World} {base : Nat} {v : Value} {hs : List Hd} (h : LL w base v hs) : Mv Bl (fun a => LL a base v hs) w := ⟨h, fun _ _ r h => h.new r⟩
theorem Apt.farRow {w : World} {lo hi a b : Nat} {hs : List Hd} {v : Value} (h : Apt w lo hi hs) (hv : ∀ k, v.ownBlock = some k → a ≤ k ∧ k < b) (hd : hi ≤ a ∨ b ≤ lo) : ∀ x ∈ hs, apV (Hd.val x) v := fun x hx => by
  by_cases hn : (Hd.val x).ownBlock = none
  · exact .inl hn
  · refine .inr fun e => ?_
    obtain ⟨k, hk⟩ := Option.ne_none_iff_exists'.1 hn
    obtain ⟨p, hp⟩ := h.own x hx
    have h1 := h.lt x hx k hk
    have h2 := (hp.at_base k hk).1
    have h3 := hv k (e.symm.trans hk)
    omega
theorem LL.someB {w : World} {base n c : Nat} {A : Option Addr} {hs : List Hd} (h : LL w base (.slice A n c) hs) (a : Addr) (ha : A = some a) : (Value.slice A n c).ownBlock = some a.block := by
  rcases h.out.2 with ⟨h0, _⟩ | ⟨g, cap, cur, hv, _⟩
  · injection h0 with e1; rw [ha] at e1; cases e1
  · injection hv with e1; rw [ha] at e1; obtain rfl := Option.some.inj e1; rw [ha]; rfl
theorem below_lowM {B B' : Nat} {w w' : World} (h : Below B w w') (hB : B' ≤ B) : Below B' w w' := ⟨h.os, h.tape, h.output, h.size, fun k hk => h.block k (by omega)⟩
theorem rows_at (w : World) (k : Nat) (hk : w.heap.size = k) (hs : List Hd) (t : TypeId) : ∀ (j : Nat) (y : Hd), hs[j]? = some y → ∃ b : Addr, some (⟨k, 0, none⟩ : Addr) = some b ∧ (w.alloc (.cells (hs.map Hd.val).toArray t)).cell? (b.add j) = some y.val := fun j y hy => ⟨_, rfl, row_at w k hk _ t j _ (by simp [hy])⟩
theorem add_posM (a : Addr) (k : Nat) (hk : 0 < k) : a.add k = ⟨a.block, a.off + k, none⟩ := by
  unfold Addr.add
  split
  · rename_i h; simp_all
  · rfl
theorem perm8 {α : Type} (f s t : α) (X Y U V L : List α) : ((((((([f] ++ X) ++ Y) ++ U) ++ V) ++ L) ++ [s]) ++ [t]).Perm (((L ++ ([f, s, t] ++ (U ++ V))) ++ X) ++ Y) := by
  classical
  refine List.perm_iff_count.2 fun a => ?_
  simp only [List.count_append, List.count_cons, List.count_nil]
  omega
end Go.Proofs.YtpmnnnbkbcpgjaaGreatDoor
