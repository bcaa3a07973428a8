/- The value that 'api.Root{..}' makes of its parts. -/
import Derived.Test.YtelecdncdaepnaaRootEnc
import Derived.Test.YtelecdncdaepnaaEntryMore
import Derived.Laws.Tables
import Derived.Deep.RegionHeld2
import Derived.Test.YtelecdncdaepnaaTopWords
namespace Go.Proofs.Ytelecdncdaepnaa
open Go.RowKit

theorem foldl_put : ∀ (vs : List Value) (k off : Nat) (cs : Array Value), off + k + vs.length ≤ cs.size →
    (vs.zipIdx k).foldl (fun cs (x : Value × Nat) => cs.setIfInBounds (off + x.2) x.1) cs = (cs.toList.take (off + k) ++ (vs ++ cs.toList.drop (off + k + vs.length))).toArray
  | [], k, off, cs, h => by simp
  | v :: vs, k, off, cs, h => by
    rw [List.zipIdx_cons, List.foldl_cons, foldl_put vs (k + 1) off _ (by simp at h ⊢; omega)]
    rw [List.length_cons] at h ⊢
    have h2 : off + k < cs.toList.length := by rw [Array.length_toList]; omega
    rw [Array.toList_setIfInBounds]
    congr 1
    rw [← Nat.add_assoc, List.take_succ_eq_append_getElem (by rw [List.length_set]; exact h2), List.getElem_set_self, List.take_set_of_le (Nat.le_refl _), List.drop_set_of_lt (by omega), List.append_assoc]
    rw [show off + k + 1 + vs.length = off + k + (vs.length + 1) by omega]
    rfl
theorem fill_step (place : Nat → Option (Nat × Nat)) (cs ds : Array Value) (i : Nat) (v : Value) (rest : List (Nat × Value)) (off size : Nat) (vs : List Value) (hp : place i = some (off, size)) (hv : v.cells = vs.toArray) (hs : vs.length = size) (hb : off + size ≤ cs.size) (hd : cs.toList.take off ++ (vs ++ cs.toList.drop (off + size)) = ds.toList) :
    Instr.fill place cs ((i, v) :: rest) = Instr.fill place ds rest := by
  have h := foldl_put vs 0 off cs (by omega)
  have e : v.cells.zipIdx.foldl (fun cs (x : Value × Nat) => cs.setIfInBounds (off + x.2) x.1) cs = ds := by
    rw [← Array.foldl_toList, Array.toList_zipIdx, hv]
    refine h.trans ?_
    rw [Nat.add_zero, hs, hd]
  rw [Instr.fill, hp]
  simp only []
  rw [if_neg (by rw [hv, List.size_toArray, hs]; simp; omega), e]
theorem built_root (s : Nat) (l m : List UInt8) (hl : l.length = 32) (hm : m.length = 32) : Try.prog.built 63 [(0, .int .u64 s), (1, .agg (rB l)), (2, .agg (rB m))] = some (rtL ⟨s, l, m⟩).toArray := by
  have h : ∀ ps, Try.prog.built 63 ps = Instr.fill (#[(0, 1), (1, 32), (33, 32)][·]?) (rtL zeroR).toArray ps := fun ps => by kernel_rfl
  rw [h]
  have hlz : (encB zeroD).length = 32 := by rw [encB_length]; decide
  have hll : (encB l).length = 32 := by rw [encB_length, hl]
  have hlm : (encB m).length = 32 := by rw [encB_length, hm]
  have z1 : ∀ (v : Value) (a b : List Value), a.length = 32 → b.length = 32 → (v :: (a ++ b)).toArray.size = 65 := fun v a b ha hb => by simp [ha, hb]
  rw [fill_step _ (rtL zeroR).toArray (.int .u64 s :: (encB zeroD ++ encB zeroD)).toArray 0 _ _ 0 1 [.int .u64 s] rfl rfl rfl (by rw [show (rtL zeroR).toArray.size = 65 from z1 _ _ _ hlz hlz]; omega) rfl,
    fill_step _ _ (.int .u64 s :: (encB l ++ encB zeroD)).toArray 1 _ _ 1 32 (encB l) rfl rfl hll (by rw [z1 _ _ _ hlz hlz]; omega) (by
      show (Value.int .u64 s :: (encB zeroD ++ encB zeroD)).take 1 ++ (encB l ++ (Value.int .u64 s :: (encB zeroD ++ encB zeroD)).drop 33) = _
      rw [List.take_succ_cons, List.take_zero, List.drop_succ_cons, List.drop_append_of_le_length (by omega), List.drop_of_length_le (by omega)]; rfl),
    fill_step _ _ (.int .u64 s :: (encB l ++ encB m)).toArray 2 _ _ 33 32 (encB m) rfl rfl hlm (by rw [z1 _ _ _ hll hlz]; omega) (by
      show (Value.int .u64 s :: (encB l ++ encB zeroD)).take 33 ++ (encB m ++ (Value.int .u64 s :: (encB l ++ encB zeroD)).drop 65) = _
      rw [List.take_succ_cons, List.drop_succ_cons, List.take_append_of_le_length (by omega), List.take_of_length_le (by omega), List.drop_of_length_le (by simp; omega), List.append_nil]; rfl)]
  rfl
theorem run_buildR (w : World) (s : Nat) (l m : List UInt8) (hl : l.length = 32) (hm : m.length = 32) : (Instr.build 63 #[(0, .int .u64 s), (1, .agg (rB l)), (2, .agg (rB m))]).run Try.prog w = .ok (.agg (rtL ⟨s, l, m⟩).toArray) w :=
  run_build w _ _ _ (built_root s l m hl hm)
theorem yieldsIf_buildR {ops : Array Oper} {S : World → Prop} {o : Oper} {a : Act} (hw : Region.wanted o (yielded ops a.tmps) = true) (x y z : Operand) (ho : o.op = .build 63 #[(0, x), (1, y), (2, z)])
    (s : Nat) (l m : List UInt8) (hl : l.length = 32) (hm : m.length = 32) (hx : a.eval x = .int .u64 s) (hy : a.eval y = .agg (rB l)) (hz : a.eval z = .agg (rB m)) : YieldsIf Try.prog ops S o (.agg (rtL ⟨s, l, m⟩).toArray) a :=
  .inl ⟨hw, fun w _ => by
    have hp : ((#[(0, x), (1, y), (2, z)] : Array (Nat × Operand)).map fun (i, x) => (i, a.eval x)) = #[(0, a.eval x), (1, a.eval y), (2, a.eval z)] := by simp
    rw [hx, hy, hz] at hp
    unfold execOp
    simp only [ho, hp, Sem.run_bind, run_buildR w s l m hl hm, Result.andThen_ok]
    rfl⟩
theorem topwidthN (X : UInt8) (k : Nat) (hk : k = 1 + X.toNat % 32) (w : World) : Calls Try.prog 41 #[.int .u8 (uB X)] w fun e w' => e = .returned (.int .i64 k) ∧ w = w' := by
  have := topwidth_calls X.toNat (uB X) rfl (by have := X.toNat_lt; omega) w
  rw [← hk] at this
  exact this
theorem topcutR (k : Nat) (hk : k ≤ 32) (d : List UInt8) (hd : d.length = 32) (w : World) : Calls Try.prog 42 #[.int .i64 k, .agg (encB d).toArray] w fun r w' => r = .returned (.agg (encB (padL k d)).toArray) ∧ Below w.heap.size w w' := topcut_calls k hk d hd w
theorem RtAt.logR {w : World} {g : Nat} {T : TypeId} {r : Rt} (h : RtAt w g T r) : w.rangeAt g 1 (encB r.l) := h.row.range [.int .u64 r.s] (encB r.m) (encB r.l) rfl 1 rfl
theorem RtAt.mapR {w : World} {g : Nat} {T : TypeId} {r : Rt} (h : RtAt w g T r) : w.rangeAt g 33 (encB r.m) := h.row.range (.int .u64 r.s :: encB r.l) [] (encB r.m) (by simp [rtL]) 33 (by rw [List.length_cons, encB_length, h.ok.l])
end Go.Proofs.Ytelecdncdaepnaa
