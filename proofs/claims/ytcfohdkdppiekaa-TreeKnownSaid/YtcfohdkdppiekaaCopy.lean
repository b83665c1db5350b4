/- The builtin copy of a text into a part of a block. -/
import Derived.Test.YtcfohdkdppiekaaKitP
namespace Go.Proofs.Ytcfohdkdppiekaa
open Go.RowKit Go.Proofs
theorem bytes_extract (p : List UInt8) (n : Nat) : ((⟨p.toArray⟩ : ByteArray).extract 0 n).data.map (fun b => Value.int .u8 (b.toNat : Int)) = (bcs (p.take n)).toArray := by
  have e : ((⟨p.toArray⟩ : ByteArray).extract 0 n) = ⟨(p.take n).toArray⟩ := by
    rw [ByteArray.extract_mk p 0 n]
    simp
  rw [e]
  simp [bcs]
theorem run_copy_text (w : World) (t : TypeId) (g off dl dc : Nat) (T : TypeId) (xs : List Value) (p : List UInt8) (h : arr w g T xs) (hx : off + min p.length dl ≤ xs.length) :
    (Builtin.copy_ #[22, 9] t #[.slice (some ⟨g, off, none⟩) dl dc, .string ⟨p.toArray⟩]).run Try.prog w =
      .ok (.int .i64 ((min p.length dl : Nat) : Int)) (w.setRow g (xs.take off ++ bcs (p.take (min p.length dl)) ++ xs.drop (off + min p.length dl)).toArray) := by
  obtain ⟨i0, hi, hz0, hz1, hz2⟩ := info_parts info_byte
  have hsz : ∀ w : World, (sizeOf 5).run Try.prog w = .ok 1 w := fun w => by simp [sizeOf, typeInfo, hi, hz1]
  have hl : (bcs (p.take (min p.length dl))).length = min p.length dl := by rw [bcs_len, List.length_take]; omega
  have hst := run_storeCells_at (P := Try.prog) g off T (bcs (p.take (min p.length dl))) 0 xs.toArray w h (by rw [hl]; simpa using hx) (fun v hv => by
    unfold bcs at hv
    obtain ⟨c, _, rfl⟩ := List.mem_map.1 hv
    rfl)
  have hn : Nat.min (⟨p.toArray⟩ : ByteArray).size dl = min p.length dl := rfl
  have e1 : List.take ((⟨p.toArray⟩ : ByteArray).size.min dl) (List.map (fun b : UInt8 => Value.int IntKind.u8 (b.toNat : Int)) p) = bcs (p.take (min p.length dl)) := by
    rw [hn]; unfold bcs; rw [List.map_take]
  unfold Builtin.copy_
  simp [run_underlying Try.underlying22, hsz, Builtin.lenOf, Builtin.firstCells, goInt]
  rw [e1, hst, hn]
  simp [Result.andThen, hl]
/-- the copy as one operation -/
theorem wpList_copy_text {ops : Array Oper} {rest : List Oper} {o : Oper} {a : Act} {w : World} {Q : Exit → Act → World → Prop} (hgd : o.guard = none) (d s : Operand)
    (ho : o.op = .call { callee := .builtin .copy, args := #[d, s], argTypes := #[22, 9] }) (g off dl dc m : Nat) (T : TypeId) (xs : List Value) (p : List UInt8)
    (hd : a.eval d = .slice (some ⟨g, off, none⟩) dl dc) (hs : a.eval s = .string ⟨p.toArray⟩) (h : arr w g T xs) (hm : min p.length dl = m) (hx : off + m ≤ xs.length)
    (hK : ∀ w', w' = w.setRow g (xs.take off ++ bcs (p.take m) ++ xs.drop (off + m)).toArray → wpList Try.prog ops Q rest (a.put o.dst (.int .i64 (m : Int))) w') : wpList Try.prog ops Q (o :: rest) a w := by
  refine wpList_plain hgd fun K hK' => ?_
  subst hm
  have hrun := run_copy_text w o.type g off dl dc T xs p h hx
  unfold Oper.wp
  simp [execOp, ho, resolve, invoke, builtin, hd, hs, hrun, Result.andThen]
  show K (a.put o.dst _) _
  simpa using hK' _ _ (hK _ rfl)
end Go.Proofs.Ytcfohdkdppiekaa
