import Derived.Test.YtlcbjjgmkllceaaQBb
import Derived.Test.YtlcbjjgmkllceaaQBe
/- Lists of frames of a call's own. -/
namespace Go.Proofs.Ytlcbjjgmkllceaa
open Go.RowKit

/-- a frame as it stands in a list: its place, its payload and where that lies -/
structure FrV where
  place : Nat
  A : Option Addr
  c : Nat
  pay : List UInt8
def FrV.val (f : FrV) : Value := .slice f.A f.pay.length f.c
def FrV.cells (f : FrV) : List Value := [.int .u64 f.place, f.val]
/-- two lists of bytes that share no block -/
def apartV (u v : Value) : Prop := u.ownBlock = none ∨ u.ownBlock ≠ v.ownBlock
structure FL (w : World) (base : Nat) (e : TypeId) (v : Value) (fs : List FrV) : Prop where
  row : w.ownsRow base e 2 v fs.length (fs.flatMap FrV.cells)
  own : ∀ f ∈ fs, OB w base 5 f.val f.pay
  far : ∀ f ∈ fs, apartV f.val v
  apart : fs.Pairwise fun f g => apartV f.val g.val
theorem FL.nil (w : World) (base : Nat) (e : TypeId) : FL w base e (.slice none 0 0) [] := ⟨World.ownsRow_nil w base e 2, fun f hf => absurd hf (by simp), fun f hf => absurd hf (by simp), List.Pairwise.nil⟩
theorem FL.form {w : World} {base : Nat} {e : TypeId} {v : Value} {fs : List FrV} (h : FL w base e v fs) : ∃ A c, v = .slice A fs.length c := by
  rcases h.row.2 with ⟨rfl, hn⟩ | ⟨g, cap, cur, rfl, _⟩
  · exact ⟨none, 0, by rw [hn]⟩
  · exact ⟨_, _, rfl⟩
theorem FL.keep {w w' : World} {base : Nat} {e : TypeId} {v : Value} {fs : List FrV} (h : FL w base e v fs) (hv : ∀ k, v.ownBlock = some k → w'.heap[k]? = w.heap[k]?) (hf : ∀ f ∈ fs, ∀ k, f.val.ownBlock = some k → w'.heap[k]? = w.heap[k]?) : FL w' base e v fs := by
  refine ⟨⟨h.row.1, ?_⟩, fun f hm => ⟨(h.own f hm).out.1, ?_⟩, h.far, h.apart⟩
  · rcases h.row.2 with h1 | ⟨g, cap, cur, rfl, hb, hh, r⟩
    · exact .inl h1
    · exact .inr ⟨g, cap, cur, rfl, hb, (hv g rfl).trans hh, r⟩
  · rcases (h.own f hm).out.2 with h1 | ⟨g, cap, cur, e1, hb, hh, r⟩
    · exact .inl h1
    · exact .inr ⟨g, cap, cur, e1, hb, (hf f hm g (by rw [e1]; rfl)).trans hh, r⟩
theorem FL.vlt {w : World} {base : Nat} {e : TypeId} {v : Value} {fs : List FrV} (h : FL w base e v fs) : ∀ k, v.ownBlock = some k → base ≤ k ∧ k < w.heap.size := h.row.lt
theorem FL.new {w w' : World} {base : Nat} {e : TypeId} {v : Value} {fs : List FrV} (h : FL w base e v fs) (hb : Below w.heap.size w w') : FL w' base e v fs :=
  h.keep (fun k hk => hb.block k (h.vlt k hk).2) (fun f hf k hk => hb.block k ((h.own f hf).at_base k hk).2)
theorem FL.mono {w : World} {base base' : Nat} {e : TypeId} {v : Value} {fs : List FrV} (h : FL w base e v fs) (hb : base' ≤ base) : FL w base' e v fs := by
  refine ⟨⟨h.row.1, ?_⟩, fun f hf => (h.own f hf).mono hb, h.far, h.apart⟩
  rcases h.row.2 with h2 | ⟨g, cap, cur, e1, hg, r⟩
  · exact .inl h2
  · exact .inr ⟨g, cap, cur, e1, Nat.le_trans hb hg, r⟩
theorem cells_length (fs : List FrV) : (fs.flatMap FrV.cells).length = fs.length * 2 := by
  induction fs with
  | nil => rfl
  | cons f fs ih => simp [List.flatMap_cons, FrV.cells, ih]; omega
theorem cells_get (fs : List FrV) (i : Nat) (f : FrV) (h : fs[i]? = some f) : (fs.flatMap FrV.cells)[i * 2]? = some (.int .u64 f.place) ∧ (fs.flatMap FrV.cells)[i * 2 + 1]? = some f.val := by
  induction fs generalizing i with
  | nil => simp at h
  | cons g fs ih =>
    rw [List.flatMap_cons]
    cases i with
    | zero => simp at h; subst h; simp [FrV.cells]
    | succ i =>
      have := ih i (by simpa using h)
      rw [show (i + 1) * 2 = i * 2 + 2 by omega, show i * 2 + 2 + 1 = (i * 2 + 1) + 2 by omega]
      rw [List.getElem?_append_right (by simp [FrV.cells]), List.getElem?_append_right (by simp [FrV.cells])]
      simpa [FrV.cells] using this
/-- where a frame of a list stands -/
theorem FL.at_ {w : World} {base : Nat} {e : TypeId} {v : Value} {fs : List FrV} (h : FL w base e v fs) (i : Nat) (f : FrV) (hf : fs[i]? = some f) : ∃ g c, v = .slice (some ⟨g, 0, none⟩) fs.length c ∧ base ≤ g ∧ w.cell? ⟨g, i * 2, none⟩ = some (.int .u64 f.place) ∧ w.cell? ⟨g, i * 2 + 1, none⟩ = some f.val := by
  obtain ⟨c0, c1⟩ := cells_get fs i f hf
  have h0 := h.row
  rcases h0.2 with ⟨_, hn⟩ | ⟨g, cap, cur, rfl, hb, _⟩
  · have := (List.getElem?_eq_some_iff.1 hf).1
    omega
  · have e : ∀ j, (⟨g, 0, none⟩ : Addr).add j = ⟨g, j, none⟩ := fun j => by unfold Addr.add; split <;> simp_all
    have r0 := h0.cells (g := g) rfl _ _ c0
    have r1 := h0.cells (g := g) rfl _ _ c1
    rw [e] at r0 r1
    exact ⟨g, cap, rfl, hb, r0, r1⟩
structure FrT (P : Program) (t e : TypeId) : Prop where
  sl : P.underlying t = some (.slice e)
  info : (P.info? e).map (fun i => (i.zero, i.size, i.bytes)) = some (some (.agg #[.int .u64 0, .slice none 0 0]), 2, 32)
/-- append(v, f) of a frame -/
theorem wp_appendFr {P : Program} {t e : TypeId} {w : World} {ops : Array Oper} {rest : List Oper} {o : Oper} {a : Act} {Q : Exit → Act → World → Prop} (ft : FrT P t e) (hg : o.guard = none) (s x : Operand) (hop : o.op = .call { callee := .builtin .append, args := #[s, x], argTypes := #[t, t] })
    (base : Nat) (v : Value) (fs : List FrV) (hs : a.eval s = v) (ho : FL w base e v fs) (f : FrV) (ad : Addr) (hx : a.eval x = .slice (some ad) 1 1) (hc0 : w.cell? (ad.add 0) = some (.int .u64 f.place)) (hc1 : w.cell? (ad.add 1) = some f.val) (hf : OB w base 5 f.val f.pay)
    (hfv : apartV f.val v) (hff : ∀ g ∈ fs, apartV g.val f.val) (hlen : (fs.length + 1) * 32 ≤ 140737488355328) (hbase : base ≤ w.heap.size)
    (h : ∀ v' w', FL w' base e v' (fs ++ [f]) → w.grownBy w' v.ownBlock → wpList P ops Q rest (a.put o.dst v') w') : wpList P ops Q (o :: rest) a w := by
  obtain ⟨i, hi, hz, hsz, hb⟩ := info_parts ft.info
  refine Go.wpList_append_own_at (w := w) hg s x t hop base e i _ 2 32 ft.sl hi hz hsz hb rfl (by decide) v fs.length (fs.flatMap FrV.cells) hs ho.row ad 1 1 f.cells hx rfl (fun j u hu => ?_) (fun u hu => ?_) (by unfold maxLen; omega) hlen hbase fun v' w' h1 h2 _ h4 => ?_
  · match j, hu with
    | 0, hu => simp [FrV.cells] at hu; subst hu; exact hc0
    | 1, hu => simp [FrV.cells] at hu; subst hu; exact hc1
    | j + 2, hu => simp [FrV.cells] at hu
  · simp [FrV.cells] at hu
    rcases hu with rfl | rfl <;> rfl
  · have hkeep : ∀ g, OB w base 5 (FrV.val g) g.pay → apartV g.val v → OB w' base 5 g.val g.pay := fun g hg ha => hg.keep h2 ha
    have hnew : ∀ g, OB w base 5 (FrV.val g) g.pay → apartV g.val v → apartV g.val v' := by
      intro g hg ha
      rcases h4 with e1 | e1
      · unfold apartV; rw [e1]; exact ha
      · by_cases hn : g.val.ownBlock = none
        · exact .inl hn
        · refine .inr fun e2 => ?_
          have := (hg.at_base w.heap.size (e2.trans e1)).2
          omega
    refine h v' w' ⟨?_, ?_, ?_, ?_⟩ h2
    · simpa [List.flatMap_append] using h1
    · intro g hg
      rcases List.mem_append.1 hg with hg | hg
      · exact hkeep g (ho.own g hg) (ho.far g hg)
      · obtain rfl := List.mem_singleton.1 hg
        exact hkeep g hf hfv
    · intro g hg
      rcases List.mem_append.1 hg with hg | hg
      · exact hnew g (ho.own g hg) (ho.far g hg)
      · obtain rfl := List.mem_singleton.1 hg
        exact hnew g hf hfv
    · rw [List.pairwise_append]
      exact ⟨ho.apart, List.pairwise_singleton _ _, fun g hg y hy => by obtain rfl := List.mem_singleton.1 hy; exact hff g hg⟩
end Go.Proofs.Ytlcbjjgmkllceaa

/- What Scan tells, in plain words. -/
namespace Go.Proofs.Ytlcbjjgmkllceaa
open Go.RowKit

def Nx.fr (x : Nx) : Nat × List UInt8 := (x.place, x.payload)
/-- the frames from a place on, and where they end -/
def scanTo : Nat → List UInt8 → Int → List (Nat × List UInt8) × Int
  | 0, _, at_ => ([], at_)
  | f + 1, P, at_ => if (nextF P at_).kind = 1 then ((nextF P at_).fr :: (scanTo f P (nextF P at_).next).1, (scanTo f P (nextF P at_).next).2) else ([], at_)
def scanF (P : List UInt8) : List (Nat × List UInt8) × Int := scanTo (P.length + 1) P 0
def frOf (fs : List FrV) : List (Nat × List UInt8) := fs.map fun f => (f.place, f.pay)
theorem apartV.symm {u v : Value} (h : apartV u v) : apartV v u := by
  unfold apartV at h ⊢
  rcases h with h | h
  · by_cases hv : v.ownBlock = none
    · exact .inl hv
    · exact .inr fun e => hv (e.trans h)
  · exact .inr h.symm
/-- new bytes lie apart from what stood -/
theorem apart_new {w : World} {base e : Nat} {u v : Value} {p : List UInt8} (h : OB w base e u p) (hv : ∀ k, v.ownBlock = some k → k < base) : apartV u v := by
  by_cases hu : u.ownBlock = none
  · exact .inl hu
  · refine .inr fun e2 => ?_
    cases hk : u.ownBlock with
    | none => exact hu hk
    | some k =>
      have h1 := (h.at_base k hk).1
      have h2 := hv k (e2.symm.trans hk)
      omega
theorem pair_at (w : World) (k : Nat) (hk : w.heap.size = k) (u v : Value) (t : TypeId) : (w.alloc (.cells #[u, v] t)).cell? ((⟨k, 0, none⟩ : Addr).add 0) = some u ∧ (w.alloc (.cells #[u, v] t)).cell? ((⟨k, 0, none⟩ : Addr).add 1) = some v := by
  subst hk
  exact pair_cell w u v t
theorem scanTo_length (P : List UInt8) : ∀ (f a : Nat), a ≤ P.length → (scanTo f P a).1.length * 19 + a ≤ P.length := by
  intro f
  induction f with
  | zero => intro a ha; simpa [scanTo] using ha
  | succ f ih =>
    intro a ha
    rw [scanTo]
    by_cases hk : (nextF P a).kind = 1
    · rw [if_pos hk]
      obtain ⟨b, eb, hp1, _, _, hnx, hle, _⟩ := next_whole P a hk
      obtain rfl : b = a := by omega
      have e : (nextF P (b : Int)).next = ((b + (nextF P (b : Int)).payload.length + 18 : Nat) : Int) := by rw [hnx]; omega
      rw [e]
      have := ih (b + (nextF P (b : Int)).payload.length + 18) (by omega)
      simp only [List.length_cons]
      omega
    · rw [if_neg hk]; simpa using ha
theorem scanF_length (P : List UInt8) : (scanF P).1.length * 19 ≤ P.length := by
  have := scanTo_length P (P.length + 1) 0 (Nat.zero_le _)
  unfold scanF
  exact this
end Go.Proofs.Ytlcbjjgmkllceaa
