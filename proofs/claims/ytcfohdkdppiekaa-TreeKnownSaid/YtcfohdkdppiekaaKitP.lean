/- Small laws at this program's own numbers. -/
import Derived.Test.YtcfohdkdppiekaaProg
import Derived.Test.YtcfohdkdppiekaaKit
import Derived.Laws.BytesArg
namespace Go.Proofs.Ytcfohdkdppiekaa
open Go.RowKit Go.Proofs
/-- bytes as cells -/
def bcs (l : List UInt8) : List Value := l.map fun c => .int .u8 (c.toNat : Int)
theorem bcs_get (l : List UInt8) (i : Nat) (h : i < l.length) : (bcs l)[i]? = some (.int .u8 ((l.getD i 0).toNat : Int)) := by
  unfold bcs
  rw [List.getElem?_map, List.getD_eq_getElem?_getD, List.getElem?_eq_getElem h]; rfl
theorem str_app (a b : List UInt8) : (⟨a.toArray⟩ : ByteArray) ++ ⟨b.toArray⟩ = ⟨(a ++ b).toArray⟩ := by
  apply ByteArray.ext; simp
theorem str_app1 (a : List UInt8) (c : UInt8) : (⟨a.toArray⟩ : ByteArray) ++ ⟨#[c]⟩ = ⟨(a ++ [c]).toArray⟩ := str_app a [c]
theorem b2s_run (w : World) (b off n cap : Nat) (l : List UInt8) (hl : l.length = n) (hc : ∀ i, i < n → w.cell? ⟨b, off + i, none⟩ = some (.int .u8 ((l.getD i 0).toNat : Int))) :
    (convert 22 9 (.slice (some ⟨b, off, none⟩) n cap)).run Try.prog w = .ok (.string ⟨l.toArray⟩) w := by
  have := run_convert_bytes_arg (P := Try.prog) w 22 5 Try.underlying22 Try.underlying5 b off n cap (l.map fun c => (c.toNat : Int)) (by simpa using hl)
    (fun i hi => by
      rw [hc i hi]
      have hi' : i < l.length := by omega
      simp [List.getD_eq_getElem?_getD, List.getElem?_eq_getElem hi']) 9 Try.underlying9
  rw [this]
  have e : strOfNums (l.map fun c => (c.toNat : Int)) = ⟨l.toArray⟩ := by
    apply ByteArray.ext
    simp only [strOfNums, List.map_map]
    have h : l.map ((fun n : Int => UInt8.ofNat n.toNat) ∘ fun c : UInt8 => (c.toNat : Int)) = l.map id := List.map_congr_left fun c _ => by simp
    rw [h, List.map_id]
  rw [e]
/-- one byte, just laid, as a text -/
theorem conv1 (w : World) (b : Nat) (x : Int) (hb : w.heap.size = b) (h0 : 0 ≤ x) (h1 : x < 256) :
    (convert 22 9 (.slice (some ⟨b, 0, none⟩) 1 1)).run Try.prog (w.alloc (.cells #[.int .u8 x] 5)) = .ok (.string ⟨#[UInt8.ofNat x.toNat]⟩) (w.alloc (.cells #[.int .u8 x] 5)) := by
  refine b2s_run _ b 0 1 1 [UInt8.ofNat x.toNat] rfl fun i hi => ?_
  obtain rfl : i = 0 := by omega
  have ha : arr (w.alloc (.cells #[.int .u8 x] 5)) b 5 [.int .u8 x] := arr.newAt w _ [.int .u8 x] b hb.symm
  rw [ha.cell 0 _ rfl]
  simp
  omega
theorem bcs_len (l : List UInt8) : (bcs l).length = l.length := by simp [bcs]
theorem bcs_app (a b : List UInt8) : bcs (a ++ b) = bcs a ++ bcs b := by simp [bcs]
/-- a slice of bytes of the call's own -/
def own (w : World) (base : Nat) (v : Value) (l : List UInt8) : Prop := w.ownsRow base 5 1 v l.length (bcs l)
theorem info_byte : (Try.prog.info? 5).map (fun i => (i.zero, i.size, i.bytes)) = some (some (.int .u8 0), 1, 1) := by kernel_rfl
theorem own.nil (w : World) (base : Nat) : own w base (.slice none 0 0) [] := World.ownsRow_nil _ _ _ _
theorem grown_of_below {w w' : World} (h : Below w.heap.size w w') : w.grownBy w' none := ⟨h.os, h.tape, h.output, h.size, fun k hk _ => h.block k hk⟩
theorem own.keep {w w' : World} {base : Nat} {v : Value} {l : List UInt8} (h : own w base v l) (hb : Below w.heap.size w w') : own w' base v l := by
  refine World.ownsRow.kept h (grown_of_below hb) ?_
  cases v.ownBlock <;> simp
theorem own.alloc {w : World} {base : Nat} {v : Value} {l : List UInt8} (h : own w base v l) (o : Obj) : own (w.alloc o) base v l := World.ownsRow.alloc h o
theorem own.lt {w : World} {base : Nat} {v : Value} {l : List UInt8} (h : own w base v l) (k : Nat) (hk : v.ownBlock = some k) : base ≤ k ∧ k < w.heap.size := World.ownsRow.lt h k hk
theorem below_own {B : Nat} {a w w' : World} {base : Nat} {v : Value} {l : List UInt8} (h : Below B a w) (ho : own w base v l) (hg : w.grownBy w' v.ownBlock) (hB : B ≤ w.heap.size) (hb : B ≤ base) : Below B a w' :=
  h.grown hg hB fun k hk => Nat.le_trans hb (ho.lt k hk).1
theorem arr_own {w w' : World} {b : Nat} {T : TypeId} {xs : List Value} {base : Nat} {v : Value} {l : List UInt8} (h : arr w b T xs) (ho : own w base v l) (hg : w.grownBy w' v.ownBlock) (hb : b < base) : arr w' b T xs := by
  unfold arr at *
  rw [hg.block b (Array.getElem?_eq_some_iff.1 h).1 (fun e => by have := (ho.lt b e.symm).1; omega)]; exact h
theorem own_append {ops : Array Oper} {rest : List Oper} {o : Oper} {a : Act} {w : World} {Q : Exit → Act → World → Prop} (hgd : o.guard = none) (s x : Operand)
    (ho : o.op = .call { callee := .builtin .append, args := #[s, x], argTypes := #[22, 22] }) (base : Nat) (v : Value) (l q : List UInt8) (hs : a.eval s = v) (hown : own w base v l)
    (b off c : Nat) (hx : a.eval x = .slice (some ⟨b, off, none⟩) q.length c) (hq : ∀ j, j < q.length → w.cell? ⟨b, off + j, none⟩ = some (.int .u8 ((q.getD j 0).toNat : Int)))
    (hlen : l.length + q.length ≤ 100000000000000) (hbase : base ≤ w.heap.size)
    (h : ∀ v' w', own w' base v' (l ++ q) → w.grownBy w' v.ownBlock → wpList Try.prog ops Q rest (a.put o.dst v') w') : wpList Try.prog ops Q (o :: rest) a w := by
  obtain ⟨i0, hi, hz0, hz1, hz2⟩ := info_parts info_byte
  refine wpList_append_own w hgd s x 22 ho base 5 i0 (.int .u8 0) 1 1 Try.underlying22 hi hz0 hz1 hz2 rfl (by decide) v l.length (bcs l) hs hown ⟨b, off, none⟩ q.length c (bcs q) hx (by rw [bcs_len, Nat.mul_one]) ?_ ?_ ?_ ?_ hbase ?_
  · intro j u hj
    have hjl : j < q.length := by
      have := (List.getElem?_eq_some_iff.1 hj).1
      rwa [bcs_len] at this
    rw [bcs_get q j hjl] at hj
    have e : (⟨b, off, none⟩ : Addr).add j = ⟨b, off + j, none⟩ := by unfold Addr.add; split <;> simp_all
    rw [e, hq j hjl]; exact hj
  · intro u hu
    unfold bcs at hu
    obtain ⟨c, _, rfl⟩ := List.mem_map.1 hu
    rfl
  · unfold maxLen; omega
  · omega
  · intro v' w' h1 h2 _
    refine h v' w' ?_ h2
    unfold own
    rw [List.length_append, bcs_app]; exact h1
/-- own bytes as a text -/
theorem own.text {w : World} {base : Nat} {v : Value} {l : List UInt8} (h : own w base v l) : (convert 22 9 v).run Try.prog w = .ok (.string ⟨l.toArray⟩) w := by
  rcases h.2 with ⟨rfl, hn⟩ | ⟨g, cap, cur, rfl, _, hg, _, _, hcs, htk⟩
  · have e : l = [] := List.length_eq_zero_iff.1 hn
    subst e
    exact run_convert_bytes_nil w 22 5 Try.underlying22 Try.underlying5 0 0 9 Try.underlying9
  · refine b2s_run w g 0 l.length cap l rfl fun i hi => ?_
    rw [Nat.zero_add]
    have e : w.cell? ⟨g, i, none⟩ = cur[i]? := cell_of_row w g i cur _ _ hg
    rw [e, ← bcs_get l i hi, ← htk, List.getElem?_take_of_lt (by omega)]
    simp
theorem wpList_text {ops : Array Oper} {rest : List Oper} {o : Oper} {a : Act} {w : World} {Q : Exit → Act → World → Prop} (hgd : o.guard = none) (x : Operand) (ho : o.op = .convert 22 9 x) {base : Nat} (v : Value) (l : List UInt8)
    (hv : a.eval x = v) (hx : own w base v l) (h : wpList Try.prog ops Q rest (a.put o.dst (.string ⟨l.toArray⟩)) w) : wpList Try.prog ops Q (o :: rest) a w := by
  refine wpList_plain hgd fun K hK => ?_
  unfold Oper.wp
  subst hv
  simp only [execOp, ho, Sem.run_bind, hx.text, Result.andThen_ok, Sem.run_pure]
  exact hK _ _ h
theorem b_eq (x : Nat) : ((x % 256 : Nat) : Int) = ((x.toUInt8).toNat : Int) := by simp
theorem b4_cells (x : Nat) (b4x : List UInt8) (h : b4x = [(x / 2 ^ 24).toUInt8, (x / 2 ^ 16).toUInt8, (x / 2 ^ 8).toUInt8, x.toUInt8]) :
    #[Value.int .u8 ((x : Int) / 16777216 % 256), .int .u8 ((x : Int) / 65536 % 256), .int .u8 ((x : Int) / 256 % 256), .int .u8 ((x : Int) % 256)] = (bcs b4x).toArray := by
  subst h
  have e1 := b_eq (x / 2 ^ 24)
  have e2 := b_eq (x / 2 ^ 16)
  have e3 := b_eq (x / 2 ^ 8)
  have e4 := b_eq x
  simp only [bcs, List.map_cons, List.map_nil, ← e1, ← e2, ← e3, ← e4]
  simp
end Go.Proofs.Ytcfohdkdppiekaa
