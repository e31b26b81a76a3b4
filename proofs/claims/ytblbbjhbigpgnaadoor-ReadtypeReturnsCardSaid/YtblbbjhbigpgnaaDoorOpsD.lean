/- The walking engine, fifth part: make, bytes to strings, stores into rows of one's own, compared bools. -/
import Derived.Test.YtblbbjhbigpgnaaDoorOpsC
namespace Go.Eng
open Go Go.RowKit
section
variable {P : Program} {E : Env} {n : Nat} {L : Slots} {g : Ghost} {own : List Res} {Q : Exit → Act → World → Prop} {ops : Array Oper} {rest : List Oper}
variable {d : Nat} {ty : TypeId} {pos : String} {after : Array Edge}
theorem val_eql_bool {x y : Operand} {T T' : TypeId} {p q : Bool} (hx : ev L x = some (.bool p)) (hy : ev L y = some (.bool q)) (hT : P.underlying T = some .bool) :
    Val P E n L g own ty (.binOp .eql T x y T') (.bool (p == q)) := fun a w dst pos after hF _ => by
  have h : (Op.equal T (.bool p) (.bool q)).run P w = .ok (p == q) w := by
    obtain ⟨m, hm⟩ : ∃ m, Op.maxDepth = m + 1 := ⟨9999, rfl⟩
    unfold Op.equal
    rw [hm, Op.equalIn]
    simp only [Sem.run_bind, run_underlying hT, Result.andThen_ok]
    rfl
  simp [execOp, hF.eval hx, hF.eval hy, eqGuard, binOp, h]
def byteV (c : UInt8) : Value := .int .u8 c.toNat
def bytesV (l : List UInt8) : List Value := l.map byteV
theorem splice_set : ∀ (cs : List Value) (j : Nat) (v : Value), j < cs.length → splice cs j [v] = some (cs.set j v)
  | [], _, _, h => by simp at h
  | c :: cs, 0, v, _ => by simp [splice]
  | c :: cs, j + 1, v, h => by
    have := splice_set cs j v (by simpa using h)
    simp [splice, this]
theorem repN_byte (k : Nat) : repN k [.int .u8 0] = bytesV (List.replicate k 0) := by
  induction k with
  | zero => rfl
  | succ k ih => rw [repN, ih]; rfl
theorem repN_len (k : Nat) (zs : List Value) : (repN k zs).length = k * zs.length := by
  induction k with
  | zero => simp [repN]
  | succ k ih => rw [repN, List.length_append, ih, Nat.succ_mul]; omega
theorem r_makeSlice {x y : Operand} {T e : TypeId} {sz by0 : Nat} [hT : SlT P T e sz by0] {zs : List Value} [hZ : Zero P e zs] {len : Nat} (hd : Nat.blt d n = true) (hx : ev L x = some (.int .i64 len)) (hy : ev L y = some (.int .i64 len))
    (hzl : zs.length = sz) (hsz : Nat.blt 0 sz = true) (hlen : len ≤ 9223372036854775807) (hb : by0 * len ≤ 281474976710656)
    (k : ∀ b, Run E n ((d, .slice (some ⟨b, 0, none⟩) len len) :: L) g (.blk b e (repN len zs) :: own) (wpList P ops Q rest)) :
    Run E n L g own (wpList P ops Q (⟨some d, .makeSlice T x y, ty, pos, after, none⟩ :: rest)) :=
  r_step fun a w hF hI => by
    have hsz' : 0 < sz := Nat.blt_eq.mp hsz
    obtain ⟨inf, hi, h2, h3⟩ := infoSl hT
    obtain ⟨z, hz1, hz2⟩ : ∃ z, inf.zero = some z ∧ z.cells = zs.toArray := by
      have := hZ.z
      rw [hi] at this
      cases hz : inf.zero with
      | none => simp [hz] at this
      | some z =>
        simp [hz] at this
        exact ⟨z, rfl, by rw [← this]⟩
    have hrep := repN_spec zs sz hzl hsz' len
    have hbb : (inf.bytes : Int) * (len : Int) ≤ 281474976710656 := by
      rw [h3, ← Int.natCast_mul]; omega
    have hm := run_make (P := P) w T e inf z hT.u hi hz1 .i64 .i64 len len (by omega) (Int.le_refl _) hbb (by omega)
    have hmc : madeCells z.cells (len * sz) = (repN len zs).toArray := by
      rw [hz2]; exact hrep
    simp only [Int.toNat_natCast, h2, hmc] at hm
    have hex : (execOp a.eval ⟨some d, .makeSlice T x y, ty, pos, after, none⟩).run P w = .ok (.value (.slice (some ⟨w.heap.size, 0, none⟩) len len)) (w.alloc (.cells (repN len zs).toArray e)) := by
      simp [execOp, hF.eval hx, hF.eval hy, hm]
    unfold Oper.wp
    rw [hex]
    exact k _ _ _ (hF.put hd _) (hI.alloc e _)
theorem r_convBS {x : Operand} {S T e T0 : TypeId} {sz by0 : Nat} [hS : SlT P S e sz by0] [hE : IntT P e .u8] [hT : StrT P T] {b len cap : Nat} {l : List UInt8} (i : Nat) (hd : Nat.blt d n = true) (hx : ev L x = some (.slice (some ⟨b, 0, none⟩) len cap))
    (ho : own[i]? = some (.blk b T0 (bytesV l))) (hl : l.length = len) (k : Run E n ((d, str l) :: L) g own (wpList P ops Q rest)) :
    Run E n L g own (wpList P ops Q (⟨some d, .convert S T x, ty, pos, after, none⟩ :: rest)) := r_v hd (fun a w dst pos after hF hI => by
  have hw : w.heap[b]? = some (.cells (bytesV l).toArray T0 (0, 0)) := sat_at hI ho
  have hc := run_convert_bytes_arg w S e hS.u hE.u b 0 len cap (l.map fun c => (c.toNat : Int)) (by simpa using hl) (fun j hj => by
    have hj' : j < l.length := by omega
    simp [World.cell?, hw, bytesV, byteV, hj', List.getD]) T hT.u
  have hs : strOfNums (l.map fun c => (c.toNat : Int)) = ⟨⟨l⟩⟩ := by
    simp [strOfNums]
    rw [List.map_congr_left (g := id) (fun c _ => by simp)]
    simp
  rw [hs] at hc
  simp [execOp, hF.eval hx, hc]) k
/-- All cells of an element. -/
theorem rd_elem {α : Type} {f : α → List Value} {size : Nat} (hf : ∀ x, (f x).length = size) {l : List α} {b off : Nat} (h : ∀ k x, (l.flatMap f)[k]? = some x → g b (off + k) = some x) {i : Nat} (hi : i < l.length) : Rd g own b (off + i * size) (f l[i]) := by
  refine rd_g (fun j x hx => ?_)
  have hj : j < size := by rw [← hf l[i]]; exact (List.getElem?_eq_some_iff.1 hx).1
  rw [Nat.add_assoc]
  refine h _ _ ?_
  rw [flat_get f size hf l i j hj, List.getElem?_eq_getElem hi]
  exact hx
end
end Go.Eng
-- sum 847e5a4f1aa89f01
