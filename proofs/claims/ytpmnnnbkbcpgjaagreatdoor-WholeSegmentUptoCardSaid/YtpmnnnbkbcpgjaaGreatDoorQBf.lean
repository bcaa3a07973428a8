import Derived.Test.YtpmnnnbkbcpgjaaGreatDoorQBb
import Derived.Test.YtpmnnnbkbcpgjaaGreatDoorQBe
/- Lists of frames of a call's own. -/
namespace Go.Proofs.YtpmnnnbkbcpgjaaGreatDoor
open Go.RowKit

/-- a frame as it stands in a list: its place, its payload and where that lies -/
structure FrV where
  place : Nat
  A : Option Addr
  c : Nat
  pay : List UInt8
def FrV.val (f : FrV) : Value := .slice f.A f.pay.length f.c
def FrV.cells (f : FrV) : List Value := [.int .u64 f.place, f.val]
/-- two lists of bytes that share no block -/
def apartV (u v : Value) : Prop := u.ownBlock = none ∨ u.ownBlock ≠ v.ownBlock
structure FL (w : World) (base : Nat) (e : TypeId) (v : Value) (fs : List FrV) : Prop where
  row : w.ownsRow base e 2 v fs.length (fs.flatMap FrV.cells)
  own : ∀ f ∈ fs, OB w base 5 f.val f.pay
  far : ∀ f ∈ fs, apartV f.val v
  apart : fs.Pairwise fun f g => apartV f.val g.val
theorem FL.nil (w : World) (base : Nat) (e : TypeId) : FL w base e (.slice none 0 0) [] := ⟨World.ownsRow_nil w base e 2, fun f hf => absurd hf (by simp), fun f hf => absurd hf (by simp), List.Pairwise.nil⟩
theorem FL.form {w : World} {base : Nat} {e : TypeId} {v : Value} {fs : List FrV} (h : FL w base e v fs) : ∃ A c, v = .slice A fs.length c := by
  rcases h.row.2 with ⟨rfl, hn⟩ | ⟨g, cap, cur, rfl, _⟩
  · exact ⟨none, 0, by rw [hn]⟩
  · exact ⟨_, _, rfl⟩
theorem FL.keep {w w' : World} {base : Nat} {e : TypeId} {v : Value} {fs : List FrV} (h : FL w base e v fs) (hv : ∀ k, v.ownBlock = some k → w'.heap[k]? = w.heap[k]?) (hf : ∀ f ∈ fs, ∀ k, f.val.ownBlock = some k → w'.heap[k]? = w.heap[k]?) : FL w' base e v fs := by
  refine ⟨⟨h.row.1, ?_⟩, fun f hm => ⟨(h.own f hm).out.1, ?_⟩, h.far, h.apart⟩
  · rcases h.row.2 with h1 | ⟨g, cap, cur, rfl, hb, hh, r⟩
    · exact .inl h1
    · exact .inr ⟨g, cap, cur, rfl, hb, (hv g rfl).trans hh, r⟩
  · rcases (h.own f hm).out.2 with h1 | ⟨g, cap, cur, e1, hb, hh, r⟩
    · exact .inl h1
    · exact .inr ⟨g, cap, cur, e1, hb, (hf f hm g (by rw [e1]; rfl)).trans hh, r⟩
theorem FL.vlt {w : World} {base : Nat} {e : TypeId} {v : Value} {fs : List FrV} (h : FL w base e v fs) : ∀ k, v.ownBlock = some k → base ≤ k ∧ k < w.heap.size := h.row.lt
theorem FL.new {w w' : World} {base : Nat} {e : TypeId} {v : Value} {fs : List FrV} (h : FL w base e v fs) (hb : Below w.heap.size w w') : FL w' base e v fs :=
  h.keep (fun k hk => hb.block k (h.vlt k hk).2) (fun f hf k hk => hb.block k ((h.own f hf).at_base k hk).2)
theorem FL.mono {w : World} {base base' : Nat} {e : TypeId} {v : Value} {fs : List FrV} (h : FL w base e v fs) (hb : base' ≤ base) : FL w base' e v fs := by
  refine ⟨⟨h.row.1, ?_⟩, fun f hf => (h.own f hf).mono hb, h.far, h.apart⟩
  rcases h.row.2 with h2 | ⟨g, cap, cur, e1, hg, r⟩
  · exact .inl h2
  · exact .inr ⟨g, cap, cur, e1, Nat.le_trans hb hg, r⟩
theorem cells_length (fs : List FrV) : (fs.flatMap FrV.cells).length = fs.length * 2 := by
  induction fs with
  | nil => rfl
  | cons f fs ih => simp [List.flatMap_cons, FrV.cells, ih]; omega
theorem cells_get (fs : List FrV) (i : Nat) (f : FrV) (h : fs[i]? = some f) : (fs.flatMap FrV.cells)[i * 2]? = some (.int .u64 f.place) ∧ (fs.flatMap FrV.cells)[i * 2 + 1]? = some f.val := by
  induction fs generalizing i with
  | nil => simp at h
  | cons g fs ih =>
    rw [List.flatMap_cons]
    cases i with
    | zero => simp at h; subst h; simp [FrV.cells]
    | succ i =>
      have := ih i (by simpa using h)
      rw [show (i + 1) * 2 = i * 2 + 2 by omega, show i * 2 + 2 + 1 = (i * 2 + 1) + 2 by omega]
      rw [List.getElem?_append_right (by simp [FrV.cells]), List.getElem?_append_right (by simp [FrV.cells])]
      simpa [FrV.cells] using this
/-- where a frame of a list stands -/
theorem FL.at_ {w : World} {base : Nat} {e : TypeId} {v : Value} {fs : List FrV} (h : FL w base e v fs) (i : Nat) (f : FrV) (hf : fs[i]? = some f) : ∃ g c, v = .slice (some ⟨g, 0, none⟩) fs.length c ∧ base ≤ g ∧ w.cell? ⟨g, i * 2, none⟩ = some (.int .u64 f.place) ∧ w.cell? ⟨g, i * 2 + 1, none⟩ = some f.val := by
  obtain ⟨c0, c1⟩ := cells_get fs i f hf
  have h0 := h.row
  rcases h0.2 with ⟨_, hn⟩ | ⟨g, cap, cur, rfl, hb, _⟩
  · have := (List.getElem?_eq_some_iff.1 hf).1
    omega
  · have e : ∀ j, (⟨g, 0, none⟩ : Addr).add j = ⟨g, j, none⟩ := fun j => by unfold Addr.add; split <;> simp_all
    have r0 := h0.cells (g := g) rfl _ _ c0
    have r1 := h0.cells (g := g) rfl _ _ c1
    rw [e] at r0 r1
    exact ⟨g, cap, rfl, hb, r0, r1⟩
structure FrT (P : Program) (t e : TypeId) : Prop where
  sl : P.underlying t = some (.slice e)
  info : (P.info? e).map (fun i => (i.zero, i.size, i.bytes)) = some (some (.agg #[.int .u64 0, .slice none 0 0]), 2, 32)
/-- append(v, f) of a frame -/
theorem wp_appendFr {P : Program} {t e : TypeId} {w : World} {ops : Array Oper} {rest : List Oper} {o : Oper} {a : Act} {Q : Exit → Act → World → Prop} (ft : FrT P t e) (hg : o.guard = none) (s x : Operand) (hop : o.op = .call { callee := .builtin .append, args := #[s, x], argTypes := #[t, t] })
    (base : Nat) (v : Value) (fs : List FrV) (hs : a.eval s = v) (ho : FL w base e v fs) (f : FrV) (ad : Addr) (hx : a.eval x = .slice (some ad) 1 1) (hc0 : w.cell? (ad.add 0) = some (.int .u64 f.place)) (hc1 : w.cell? (ad.add 1) = some f.val) (hf : OB w base 5 f.val f.pay)
    (hfv : apartV f.val v) (hff : ∀ g ∈ fs, apartV g.val f.val) (hlen : (fs.length + 1) * 32 ≤ 140737488355328) (hbase : base ≤ w.heap.size)
    (h : ∀ v' w', FL w' base e v' (fs ++ [f]) → w.grownBy w' v.ownBlock → wpList P ops Q rest (a.put o.dst v') w') : wpList P ops Q (o :: rest) a w := by
  obtain ⟨i, hi, hz, hsz, hb⟩ := info_parts ft.info
  refine Go.wpList_append_own_at (w := w) hg s x t hop base e i _ 2 32 ft.sl hi hz hsz hb rfl (by decide) v fs.length (fs.flatMap FrV.cells) hs ho.row ad 1 1 f.cells hx rfl (fun j u hu => ?_) (fun u hu => ?_) (by unfold maxLen; omega) hlen hbase fun v' w' h1 h2 _ h4 => ?_
  · match j, hu with
    | 0, hu => simp [FrV.cells] at hu; subst hu; exact hc0
    | 1, hu => simp [FrV.cells] at hu; subst hu; exact hc1
    | j + 2, hu => simp [FrV.cells] at hu
  · simp [FrV.cells] at hu
    rcases hu with rfl | rfl <;> rfl
  · have hkeep : ∀ g, OB w base 5 (FrV.val g) g.pay → apartV g.val v → OB w' base 5 g.val g.pay := fun g hg ha => hg.keep h2 ha
    have hnew : ∀ g, OB w base 5 (FrV.val g) g.pay → apartV g.val v → apartV g.val v' := by
      intro g hg ha
      rcases h4 with e1 | e1
      · unfold apartV; rw [e1]; exact ha
      · by_cases hn : g.val.ownBlock = none
        · exact .inl hn
        · refine .inr fun e2 => ?_
          have := (hg.at_base w.heap.size (e2.trans e1)).2
          omega
    refine h v' w' ⟨?_, ?_, ?_, ?_⟩ h2
    · simpa [List.flatMap_append] using h1
    · intro g hg
      rcases List.mem_append.1 hg with hg | hg
      · exact hkeep g (ho.own g hg) (ho.far g hg)
      · obtain rfl := List.mem_singleton.1 hg
        exact hkeep g hf hfv
    · intro g hg
      rcases List.mem_append.1 hg with hg | hg
      · exact hnew g (ho.own g hg) (ho.far g hg)
      · obtain rfl := List.mem_singleton.1 hg
        exact hnew g hf hfv
    · rw [List.pairwise_append]
      exact ⟨ho.apart, List.pairwise_singleton _ _, fun g hg y hy => by obtain rfl := List.mem_singleton.1 hy; exact hff g hg⟩
end Go.Proofs.YtpmnnnbkbcpgjaaGreatDoor

/- What Scan tells, in plain words. -/
namespace Go.Proofs.YtpmnnnbkbcpgjaaGreatDoor
open Go.RowKit

def Nx.fr (x : Nx) : Nat × List UInt8 := (x.place, x.payload)
/-- the frames from a place on, and where they end -/
def scanTo : Nat → List UInt8 → Int → List (Nat × List UInt8) × Int
  | 0, _, at_ => ([], at_)
  | f + 1, P, at_ => if (nextF P at_).kind = 1 then ((nextF P at_).fr :: (scanTo f P (nextF P at_).next).1, (scanTo f P (nextF P at_).next).2) else ([], at_)
def scanF (P : List UInt8) : List (Nat × List UInt8) × Int := scanTo (P.length + 1) P 0
def frOf (fs : List FrV) : List (Nat × List UInt8) := fs.map fun f => (f.place, f.pay)
theorem apartV.symm {u v : Value} (h : apartV u v) : apartV v u := by
  unfold apartV at h ⊢
  rcases h with h | h
  · by_cases hv : v.ownBlock = none
    · exact .inl hv
    · exact .inr fun e => hv (e.trans h)
  · exact .inr h.symm
/-- new bytes lie apart from what stood -/
theorem apart_new {w : World} {base e : Nat} {u v : Value} {p : List UInt8} (h : OB w base e u p) (hv : ∀ k, v.ownBlock = some k → k < base) : apartV u v := by
  by_cases hu : u.ownBlock = none
  · exact .inl hu
  · refine .inr fun e2 => ?_
    cases hk : u.ownBlock with
    | none => exact hu hk
    | some k =>
      have h1 := (h.at_base k hk).1
      have h2 := hv k (e2.symm.trans hk)
      omega
theorem pair_at (w : World) (k : Nat) (hk : w.heap.size = k) (u v : Value) (t : TypeId) : (w.alloc (.cells #[u, v] t)).cell? ((⟨k, 0, none⟩ : Addr).add 0) = some u ∧ (w.alloc (.cells #[u, v] t)).cell? ((⟨k, 0, none⟩ : Addr).add 1) = some v := by
  subst hk
  exact pair_cell w u v t
theorem scanTo_length (P : List UInt8) : ∀ (f a : Nat), a ≤ P.length → (scanTo f P a).1.length * 19 + a ≤ P.length := by
  intro f
  induction f with
  | zero => intro a ha; simpa [scanTo] using ha
  | succ f ih =>
    intro a ha
    rw [scanTo]
    by_cases hk : (nextF P a).kind = 1
    · rw [if_pos hk]
      obtain ⟨b, eb, hp1, _, _, hnx, hle, _⟩ := next_whole P a hk
      obtain rfl : b = a := by omega
      have e : (nextF P (b : Int)).next = ((b + (nextF P (b : Int)).payload.length + 18 : Nat) : Int) := by rw [hnx]; omega
      rw [e]
      have := ih (b + (nextF P (b : Int)).payload.length + 18) (by omega)
      simp only [List.length_cons]
      omega
    · rw [if_neg hk]; simpa using ha
theorem scanF_length (P : List UInt8) : (scanF P).1.length * 19 ≤ P.length := by
  have := scanTo_length P (P.length + 1) 0 (Nat.zero_le _)
  unfold scanF
  exact this
end Go.Proofs.YtpmnnnbkbcpgjaaGreatDoor

/- Plain law: a frame cut short, with noughts behind it, is none. -/
namespace Go.Proofs.YtpmnnnbkbcpgjaaGreatDoor
open WireMath (wideL numS beN byteAt)
open FrameMath (head crcP laid)

theorem laid_last (place : Nat) (p : List UInt8) : (laid place p)[p.length + 17]? = some 0x5f := by
  have hl := FrameMath.laid_length place p
  have e : laid place p = ([0xf5] ++ (wideL p.length 4 ++ (wideL place 8 ++ (wideL (crcP place p).toNat 4 ++ p)))) ++ [0x5f] := by simp [FrameMath.laid, FrameMath.head]
  have hlen : ([0xf5] ++ (wideL p.length 4 ++ (wideL place 8 ++ (wideL (crcP place p).toNat 4 ++ p)))).length = p.length + 17 := by
    simp only [List.length_append, WireMath.wideL_length, List.length_cons, List.length_nil]; omega
  rw [e, List.getElem?_append_right (by omega), hlen, Nat.sub_self]
  rfl
theorem laid_field (place : Nat) (p : List UInt8) : ((laid place p).drop 1).take 4 = wideL p.length 4 := by
  have e := laid_parts place p []
  rw [List.append_nil] at e
  rw [e]
  show (wideL p.length 4 ++ _).take 4 = _
  rw [List.take_left' (WireMath.wideL_length _ _)]
/-- the frame of the bytes ahead of noughts -/
theorem torn_none (place : Nat) (p : List UInt8) (h1 : 1 ≤ p.length) (h2 : p.length ≤ 65535) (cut m : Nat) (hc : cut < p.length + 18) : (nextF ((laid place p).take cut ++ List.replicate m 0) 0).kind ≠ 1 := by
  intro hk
  obtain ⟨a, ea, hp1, hp2, _, _, hle, hld⟩ := next_whole _ 0 hk
  obtain rfl : a = 0 := by omega
  generalize (nextF ((laid place p).take cut ++ List.replicate m 0) 0).payload = pay at *
  generalize (nextF ((laid place p).take cut ++ List.replicate m 0) 0).place = pl at *
  have hlen : ((laid place p).take cut).length = cut := by rw [List.length_take, FrameMath.laid_length]; omega
  rw [List.drop_zero] at hld
  have hlast := laid_last pl pay
  have hfield := laid_field pl pay
  rw [hld] at hlast hfield
  have hge : cut ≤ pay.length + 17 := by
    by_cases h18 : cut ≤ 18
    · omega
    · have hf2 := laid_field place p
      have e1 : ((((laid place p).take cut ++ List.replicate m 0).take (pay.length + 18)).drop 1).take 4 = ((laid place p).drop 1).take 4 := by
        rw [List.drop_take, List.take_take, List.drop_append, hlen, show 1 - cut = 0 by omega, List.drop_zero, List.take_append_of_le_length (by rw [List.length_drop, hlen]; omega), List.drop_take, List.take_take]
        congr 1
        omega
      rw [e1, hf2] at hfield
      have b1 := beN_wideL p.length 4
      have b2 := beN_wideL pay.length 4
      rw [hfield] at b1
      rw [b2] at b1
      have : (256 : Nat) ^ 4 = 4294967296 := by decide
      rw [this] at b1
      omega
  rw [List.getElem?_take, if_pos (by omega), List.getElem?_append_right (by omega), List.getElem?_replicate] at hlast
  split at hlast
  · exact absurd (Option.some.inj hlast) (by decide)
  · simp at hlast
theorem scan_torn (P : List UInt8) (h : (nextF P 0).kind ≠ 1) : scanF P = ([], 0) := by
  unfold scanF
  rw [scanTo, if_neg h]
end Go.Proofs.YtpmnnnbkbcpgjaaGreatDoor

/- Plain law: of frames one behind the other, and something that is no frame behind them, Scan tells just the frames, and where they end. -/
namespace Go.Proofs.YtpmnnnbkbcpgjaaGreatDoor
open WireMath (wideL numS beN byteAt)
open FrameMath (head crcP laid)

/-- Next behind some bytes is Next of what stands behind them -/
theorem next_shift (X S : List UInt8) : nextF (X ++ S) (X.length : Nat) = ⟨(nextF S 0).kind, (nextF S 0).place, (nextF S 0).payload, (nextF S 0).next + X.length⟩ := by
  have hd : ∀ k, (X ++ S).drop (X.length + k) = S.drop k := fun k => by rw [← List.drop_drop, List.drop_left]
  have hd0 : (X ++ S).drop X.length = S := List.drop_left
  have hl : (X ++ S).length = X.length + S.length := List.length_append
  by_cases h1 : S.length = 0
  · have e1 : nextF (X ++ S) (X.length : Nat) = noNx 0 (X.length : Nat) := by unfold nextF; rw [if_pos (by omega)]
    have e2 : nextF S 0 = noNx 0 0 := by unfold nextF; rw [if_pos (by omega)]
    rw [e1, e2]; simp [noNx]
  · by_cases h2 : S.length < 17
    · have e1 : nextF (X ++ S) (X.length : Nat) = noNx 2 (X.length : Nat) := by unfold nextF; rw [if_neg (by omega), if_pos (by omega)]
      have e2 : nextF S 0 = noNx 2 0 := by unfold nextF; rw [if_neg (by omega), if_pos (by omega)]
      rw [e1, e2]; simp [noNx]
    · have m1 := next_mid (X ++ S) X.length (by omega) (by omega)
      have m2 := next_mid S 0 (by omega) (by omega)
      simp only [hd, hd0, Nat.zero_add, List.drop_zero] at m1 m2
      rw [m1, show ((0 : Nat) : Int) = (0 : Int) from rfl] at *
      rw [show nextF S 0 = _ from m2]
      generalize beN ((S.drop 1).take 4) = n
      by_cases h3 : n < 1 ∨ 65535 < n ∨ S.length < 18 + n
      · rw [if_pos (by omega), if_pos h3]; simp [noNx]
      · rw [if_neg (by omega), if_neg h3]
        split
        · simp only [Nx.mk.injEq, true_and]; omega
        · simp [noNx]
/-- frames one behind the other -/
def runL (ps : List (Nat × List UInt8)) : List UInt8 := ps.flatMap fun p => laid p.1 p.2
def okP (p : Nat × List UInt8) : Prop := p.1 ≤ 18446744073709551615 ∧ 1 ≤ p.2.length ∧ p.2.length ≤ 65535
theorem runL_length (ps : List (Nat × List UInt8)) : 18 * ps.length ≤ (runL ps).length := by
  induction ps with
  | nil => simp [runL]
  | cons p ps ih =>
    have := FrameMath.laid_length p.1 p.2
    simp only [runL, List.flatMap_cons, List.length_append, List.length_cons] at ih ⊢
    omega
theorem scanTo_run : ∀ (ps : List (Nat × List UInt8)) (X T : List UInt8) (f : Nat), (∀ p ∈ ps, okP p) → (nextF T 0).kind ≠ 1 → ps.length < f →
    scanTo f (X ++ (runL ps ++ T)) (X.length : Nat) = (ps, ((X.length + (runL ps).length : Nat) : Int)) := by
  intro ps
  induction ps with
  | nil =>
    intro X T f _ hT hf
    cases f with
    | zero => simp at hf
    | succ f =>
      have e := next_shift X T
      simp only [runL, List.flatMap_nil, List.nil_append, List.length_nil, Nat.add_zero]
      rw [scanTo, e, if_neg hT]
  | cons p ps ih =>
    intro X T f hp hT hf
    cases f with
    | zero => simp at hf
    | succ f =>
      obtain ⟨o1, o2, o3⟩ := hp p (List.mem_cons_self ..)
      have hr : runL (p :: ps) = laid p.1 p.2 ++ runL ps := by simp [runL]
      have e := next_shift X (runL (p :: ps) ++ T)
      rw [hr, List.append_assoc] at e ⊢
      rw [next_laid p.1 p.2 _ o1 o2 o3] at e
      have hlen := FrameMath.laid_length p.1 p.2
      have hx : ((p.2.length : Int) + 18 + (X.length : Nat)) = ((X ++ laid p.1 p.2).length : Nat) := by rw [List.length_append, hlen]; omega
      have ih' := ih (X ++ laid p.1 p.2) T f (fun q hq => hp q (List.mem_cons_of_mem _ hq)) hT (by simp at hf; omega)
      rw [List.append_assoc] at ih'
      rw [scanTo, e, if_pos rfl]
      simp only [Nx.fr]
      rw [hx, ih']
      simp only [List.length_append, Prod.mk.injEq, true_and]
      congr 1
      omega
theorem scan_run (ps : List (Nat × List UInt8)) (T : List UInt8) (hp : ∀ p ∈ ps, okP p) (hT : (nextF T 0).kind ≠ 1) : scanF (runL ps ++ T) = (ps, ((runL ps).length : Int)) := by
  have h := scanTo_run ps [] T ((runL ps ++ T).length + 1) hp hT (by have := runL_length ps; rw [List.length_append]; omega)
  unfold scanF
  simpa using h
end Go.Proofs.YtpmnnnbkbcpgjaaGreatDoor

/- Plain laws for WholeTorn: of frames one behind the other of which a beginning is left, with noughts behind it, Scan tells those that are whole. -/
namespace Go.Proofs.YtpmnnnbkbcpgjaaGreatDoor
open FrameMath (laid)

theorem runL_app (a b : List (Nat × List UInt8)) : runL (a ++ b) = runL a ++ runL b := by simp [runL]
theorem noughts_none (m : Nat) : (nextF (List.replicate m 0) 0).kind ≠ 1 := by
  have := torn_none 0 [0] (by decide) (by decide) 0 m (by decide)
  simpa using this
theorem scan_cut (ps : List (Nat × List UInt8)) (hp : ∀ p ∈ ps, okP p) (left m k : Nat) (hk : k ≤ ps.length) (h1 : (runL (ps.take k)).length ≤ left) (h2 : k < ps.length → left < (runL (ps.take (k + 1))).length) :
    scanF ((runL ps).take left ++ List.replicate m 0) = (ps.take k, ((runL (ps.take k)).length : Int)) := by
  have hpk : ∀ p ∈ ps.take k, okP p := fun p h => hp p (List.mem_of_mem_take h)
  by_cases hlt : k < ps.length
  · have h3 := h2 hlt
    have e : ps = ps.take k ++ (ps[k] :: ps.drop (k + 1)) := by rw [← List.drop_eq_getElem_cons hlt, List.take_append_drop]
    have e1 : runL ps = runL (ps.take k) ++ (laid ps[k].1 ps[k].2 ++ runL (ps.drop (k + 1))) := by
      have e9 : runL (ps[k] :: ps.drop (k + 1)) = laid ps[k].1 ps[k].2 ++ runL (ps.drop (k + 1)) := by simp only [runL, List.flatMap_cons]
      rw [← e9, ← runL_app, ← e]
    obtain ⟨o1, o2, o3⟩ := hp ps[k] (List.getElem_mem hlt)
    have hlen := FrameMath.laid_length ps[k].1 ps[k].2
    have e3 : (runL (ps.take (k + 1))).length = (runL (ps.take k)).length + (ps[k].2.length + 18) := by
      rw [List.take_succ_eq_append_getElem hlt, runL_app, List.length_append]
      simp only [runL, List.flatMap_cons, List.flatMap_nil, List.append_nil]
      rw [hlen]
    have e2 : (runL ps).take left ++ List.replicate m 0 = runL (ps.take k) ++ ((laid ps[k].1 ps[k].2).take (left - (runL (ps.take k)).length) ++ List.replicate m 0) := by
      rw [e1, List.take_append, List.take_of_length_le h1, List.take_append_of_le_length (by omega), List.append_assoc]
    rw [e2]
    exact scan_run (ps.take k) _ hpk (torn_none _ _ o2 o3 _ m (by omega))
  · have e0 : ps.take k = ps := List.take_of_length_le (by omega)
    rw [e0] at h1 ⊢
    rw [List.take_of_length_le h1]
    exact scan_run ps _ hp (noughts_none m)
/-- the payload that is framed -/
def sT (q : List UInt8) : List UInt8 := if q.length = 0 then [0] else q.take 65535
def pcsT (qs : List (List UInt8)) : List (Nat × List UInt8) := qs.mapIdx fun i q => (i, sT q)
theorem sT_ok (q : List UInt8) : 1 ≤ (sT q).length ∧ (sT q).length ≤ 65535 := by
  unfold sT
  split
  · simp
  · rw [List.length_take]; omega
theorem pcsT_length (qs : List (List UInt8)) : (pcsT qs).length = qs.length := by simp [pcsT]
theorem pcsT_take (qs : List (List UInt8)) (k : Nat) : (pcsT qs).take k = pcsT (qs.take k) := by
  unfold pcsT
  apply List.ext_getElem?
  intro i
  rw [List.getElem?_take, List.getElem?_mapIdx, List.getElem?_mapIdx, List.getElem?_take]
  split <;> rfl
theorem pcsT_get (qs : List (List UInt8)) (i : Nat) (q : List UInt8) (h : qs[i]? = some q) : (pcsT qs)[i]? = some (i, sT q) := by
  unfold pcsT
  rw [List.getElem?_mapIdx, h]; rfl
theorem pcsT_snoc (qs : List (List UInt8)) (j : Nat) (q : List UInt8) (h : qs[j]? = some q) : runL (pcsT (qs.take (j + 1))) = runL (pcsT (qs.take j)) ++ laid j (sT q) := by
  have hj := (List.getElem?_eq_some_iff.1 h).1
  have h1 := pcsT_get qs j q h
  have hl : j < (pcsT qs).length := by rw [pcsT_length]; exact hj
  rw [← pcsT_take, ← pcsT_take, List.take_succ_eq_append_getElem hl, runL_app]
  rw [List.getElem?_eq_getElem hl] at h1
  rw [Option.some.inj h1]
  simp [runL]
theorem pcsT_ok (qs : List (List UInt8)) (hl : qs.length ≤ 18446744073709551616) : ∀ p ∈ pcsT qs, okP p := by
  intro p hp
  obtain ⟨i, hi, rfl⟩ := List.getElem_of_mem hp
  have h1 : i < qs.length := by rwa [pcsT_length] at hi
  have h2 := pcsT_get qs i qs[i] (List.getElem?_eq_getElem h1)
  rw [List.getElem?_eq_getElem hi] at h2
  rw [Option.some.inj h2]
  exact ⟨by show i ≤ _; omega, sT_ok _⟩
def bulkL (qs : List (List UInt8)) : Nat := (qs.map fun q => q.length + 1).sum
theorem bulkL_len (l : List (List UInt8)) : l.length ≤ bulkL l := by
  induction l with
  | nil => simp
  | cons x l ih => simp only [bulkL, List.map_cons, List.sum_cons, List.length_cons] at ih ⊢; omega
theorem bulkL_take (l : List (List UInt8)) (i : Nat) : bulkL (l.take i) ≤ bulkL l := by
  have h := congrArg bulkL (List.take_append_drop i l)
  simp only [bulkL, List.map_append, List.sum_append] at h ⊢
  omega
theorem runT_le (qs : List (List UInt8)) (j : Nat) : (runL (pcsT (qs.take j))).length ≤ 20 * bulkL (qs.take j) := by
  induction j with
  | zero => simp [pcsT, runL]
  | succ j ih =>
    by_cases hj : j < qs.length
    · have h : qs[j]? = some qs[j] := List.getElem?_eq_getElem hj
      rw [pcsT_snoc qs j _ h, List.length_append, FrameMath.laid_length]
      have e : bulkL (qs.take (j + 1)) = bulkL (qs.take j) + (qs[j].length + 1) := by
        unfold bulkL
        rw [List.take_succ_eq_append_getElem hj, List.map_append, List.sum_append]
        simp
      have : (sT qs[j]).length ≤ qs[j].length + 1 := by
        unfold sT
        split
        · simp
        · rw [List.length_take]; omega
      omega
    · rw [List.take_of_length_le (by omega)]
      rw [List.take_of_length_le (by omega)] at ih
      exact ih
end Go.Proofs.YtpmnnnbkbcpgjaaGreatDoor
