/- A builder's writes: contracts. -/
import Derived.Test.YtcfohdkdppiekaaKitP
import Derived.Test.YtcfohdkdppiekaaShelf
import Derived.Lib.AppendStr
namespace Go.Proofs.Ytcfohdkdppiekaa
open Go.RowKit Go.Proofs
/-- block b is a builder that holds the bytes l; its memory lies from block B on -/
def isB (w : World) (B b : Nat) (l : List UInt8) : Prop := Lib.IsBuilder 144 5 B b (Lib.byteCells l) w
theorem infoB : (Try.prog.info? 144).map (·.size) = some 2 := by kernel_rfl
theorem liesB : liesAt Try.prog Try.prog.depth 144 (2 / Try.prog.cellsOf 144) 0 144 1 = true := by kernel_rfl
theorem cells_app (l : List UInt8) (s : List UInt8) : Lib.byteCells l ++ Lib.byteCells s = Lib.byteCells (l ++ s) := by simp [Lib.byteCells]
set_option maxHeartbeats 1000000 in
set_option maxRecDepth 100000 in
theorem check_used (b : Nat) (w : World) (h0 : w.cell? ⟨b, 0, none⟩ = some (.pointer (some ⟨b, 0, none⟩))) :
    Calls Try.prog 154 #[.pointer (some ⟨b, 0, none⟩)] w fun e w' => e = .returned (.tuple #[]) ∧ w' = w := by
  obtain ⟨j, hj, _⟩ := Option.map_eq_some_iff.1 infoB
  have hne := fun W : World => Lib.run_neq_ptr_same W (⟨b, 0, none⟩ : Addr) Try.underlying142 hj
  go_enter Try.func154, Try.ntmps154
  go_wp2
  go_end0
  exact ⟨rfl, rfl⟩
set_option maxHeartbeats 1000000 in
set_option maxRecDepth 100000 in
theorem check_fresh (b : Nat) (w : World) (h0 : w.cell? ⟨b, 0, none⟩ = some (.pointer none)) (hsh : w.shape? b = some (144, 2)) (hfz : w.frozen? ⟨b, 0, none⟩ = false) :
    Calls Try.prog 154 #[.pointer (some ⟨b, 0, none⟩)] w fun e w' => e = .returned (.tuple #[]) ∧ w' = w.setCell ⟨b, 0, none⟩ (.pointer (some ⟨b, 0, none⟩)) := by
  obtain ⟨j, hj, hjs⟩ := Option.map_eq_some_iff.1 infoB
  have k1 := Lib.run_to_unsafe w ⟨b, 0, none⟩ Try.underlying142 Try.underlying221 hj (by rw [hjs]; decide) hsh (Nat.zero_lt_succ 1)
  have k2 := Lib.run_from_unsafe w ⟨b, 0, none⟩ Try.underlying221 Try.underlying142 hj hsh liesB
  have K1 := hid k1
  have K2 := hid k2
  clear k1 k2
  go_enter Try.func154, Try.ntmps154
  go_wp2
  rw [K1.out]
  simp only [Result.andThen]
  rw [Oper.upon_value]
  go_wp2
  rw [run_callFunc_extern Try.func170 (by kernel_rfl) (by kernel_rfl) (by kernel_rfl) (e := Extern.AbiNoEscape.same) (by kernel_rfl)]
  rw [Lib.run_noEscape]
  simp only [Result.andThen]
  rw [Oper.upon_value]
  go_wp2
  rw [K2.out]
  simp only [Result.andThen]
  rw [Oper.upon_value]
  go_wp2
  go_end0
  exact ⟨rfl, rfl⟩
theorem check_any (B b : Nat) (l : List UInt8) (w : World) (h : isB w B b l) :
    Calls Try.prog 154 #[.pointer (some ⟨b, 0, none⟩)] w fun e w' => e = .returned (.tuple #[]) ∧ Lib.BuilderAt 144 5 B b (.pointer (some ⟨b, 0, none⟩)) (Lib.byteCells l) w' ∧ Below B w w' := by
  rcases h with h | h
  · refine (check_fresh b w h.cell0 h.shape h.frozen0).mono ?_
    rintro e w' ⟨rfl, rfl⟩
    exact ⟨rfl, h.used _, (Below.refl B w).setCell (p := ⟨b, 0, none⟩) h.1 _⟩
  · refine (check_used b w h.cell0).mono ?_
    rintro e w' ⟨rfl, rfl⟩
    exact ⟨rfl, h, Below.refl B _⟩
theorem own_keep {w w' : World} {base : Nat} {e : TypeId} {n : Nat} {v : Value} {xs : List Value} (h : w.ownsRow base e 1 v n xs) (hb : Below w.heap.size w w') : w'.ownsRow base e 1 v n xs := by
  refine World.ownsRow.kept h (grown_of_below hb) ?_
  cases v.ownBlock <;> simp
/-- what a write that lays new bytes into the buffer leaves -/
theorem put_any {B b : Nat} {w1 w2 w3 : World} {v : Value} {p : Value} {bs : List Value} (hB : B ≤ b) (hbl : B ≤ w1.heap.size) (hbk : w1.heap[b]? = some (.cells #[p, v] 144 (0, 0))) (hne : v.ownBlock ≠ some b) (hown : w1.ownsRow B 5 1 v bs.length bs)
    (h12 : Below w1.heap.size w1 w2) (hg : w2.grownBy w3 v.ownBlock) : w3.heap[b]? = some (.cells #[p, v] 144 (0, 0)) ∧ Below B w1 w3 := by
  have hlt : b < w1.heap.size := (Array.getElem?_eq_some_iff.1 hbk).1
  have h2 : w2.heap[b]? = some (.cells #[p, v] 144 (0, 0)) := (h12.block b hlt).trans hbk
  have hlt2 : b < w2.heap.size := (Array.getElem?_eq_some_iff.1 h2).1
  refine ⟨(hg.block b hlt2 (fun e => hne e.symm)).trans h2, ?_⟩
  exact (h12.mono hbl).grown hg (Nat.le_trans hbl h12.size) (fun k hk => (hown.lt k hk).1)
set_option maxHeartbeats 1000000 in
set_option maxRecDepth 100000 in
theorem wbyte_any (B b : Nat) (l : List UInt8) (c : Int) (hc : 0 ≤ c ∧ c ≤ 255) (w : World) (h : isB w B b l) (hlen : l.length ≤ 1000000000000) (hBw : B ≤ w.heap.size) :
    Calls Try.prog 113 #[.pointer (some ⟨b, 0, none⟩), .int .u8 c] w fun e w' => e = .returned .nilIface ∧ isB w' B b (l ++ [UInt8.ofNat c.toNat]) ∧ Below B w w' := by
  obtain ⟨i0, hi, hz0, hz1, hz2⟩ := info_parts info_byte
  go_enter Try.func113, Try.ntmps113
  go_wp2_with fail
  refine (check_any B b l _ h).mono ?_
  rintro e w1 ⟨rfl, h1, hb1⟩
  obtain ⟨hB, v, hbk, hown, hne⟩ := h1
  have hll : (Lib.byteCells l).length = l.length := by simp [Lib.byteCells]
  have c1 : w1.cell? ⟨b, 1, none⟩ = some v := by rw [Lib.cell_of_heap hbk]; rfl
  have hs1 : B ≤ w1.heap.size := Nat.le_trans hBw hb1.size
  have HLL := hid hll
  clear hll
  go_wp2_with (at_builtin; go_must (refine wpList_append_own _ rfl _ _ 22 rfl B 5 i0 (.int .u8 0) 1 1 Try.underlying22 hi hz0 hz1 hz2 rfl (by decide) _ _ _ rfl (hown.alloc _) ⟨w1.heap.size, 0, none⟩ 1 1 [.int .u8 c] rfl rfl ?c1 ?c2 ?c3 ?c4 ?c5 ?_))
  case c1 =>
    intro j u hj
    match j, hj with
    | 0, hj => simp at hj; subst hj; simp [Addr.add]
  case c2 => intro u hu; simp at hu; subst hu; rfl
  case c3 => have := HLL.out; unfold maxLen; omega
  case c4 => have := HLL.out; omega
  case c5 => simp; omega
  intro v' w2 hown' hgrow _
  obtain ⟨hb2, hbw2⟩ := put_any hB hs1 hbk hne hown ((Below.refl w1.heap.size w1).alloc (Nat.le_refl _) _) hgrow
  have d1 : w2.cell? ⟨b, 1, none⟩ = some v := by rw [Lib.cell_of_heap hb2]; rfl
  have f1 : w2.frozen? ⟨b, 1, none⟩ = false := Lib.frozen_of_heap hb2 1
  obtain ⟨g, cap, rfl⟩ : ∃ g cap, v' = .slice (some ⟨g, 0, none⟩) ((Lib.byteCells l).length + 1) cap := by
    rcases hown'.2 with ⟨_, h0⟩ | ⟨g, cap, cur, hv, _⟩
    · omega
    · exact ⟨g, cap, hv⟩
  have HO := hid hown'
  clear hown' hown
  go_wp2
  go_ret
  refine ⟨rfl, Or.inr ?_, (hb1.trans hbw2).setCell (p := ⟨b, 1, none⟩) hB _⟩
  have e : Lib.byteCells (l ++ [UInt8.ofNat c.toNat]) = Lib.byteCells l ++ [.int .u8 c] := by
    simp [Lib.byteCells]
    omega
  rw [e]
  exact Lib.BuilderAt.put hB hb2 (bs' := Lib.byteCells l ++ [.int .u8 c]) (by simpa using HO.out) (by decide)
set_option maxHeartbeats 1000000 in
set_option maxRecDepth 100000 in
theorem wstr_any (B b : Nat) (l s : List UInt8) (w : World) (h : isB w B b l) (hlen : l.length + s.length ≤ 1000000000000) (hBw : B ≤ w.heap.size) :
    Calls Try.prog 114 #[.pointer (some ⟨b, 0, none⟩), .string ⟨s.toArray⟩] w fun e w' => e = .returned (.tuple #[.int .i64 (s.length : Int), .nilIface]) ∧ isB w' B b (l ++ s) ∧ Below B w w' := by
  obtain ⟨i0, hi, hz0, hz1, hz2⟩ := info_parts info_byte
  go_enter Try.func114, Try.ntmps114
  go_wp2_with fail
  refine (check_any B b l _ h).mono ?_
  rintro e w1 ⟨rfl, h1, hb1⟩
  obtain ⟨hB, v, hbk, hown, hne⟩ := h1
  have hll : (Lib.byteCells l).length = l.length := by simp [Lib.byteCells]
  have c1 : w1.cell? ⟨b, 1, none⟩ = some v := by rw [Lib.cell_of_heap hbk]; rfl
  have hs1 : B ≤ w1.heap.size := Nat.le_trans hBw hb1.size
  have HLL := hid hll
  clear hll
  go_wp2_with (at_builtin; go_must (refine Lib.wpList_append_own_string _ rfl _ _ 22 9 rfl B 5 i0 Try.underlying22 Try.underlying9 hi hz0 hz1 hz2 _ _ _ rfl hown ⟨s.toArray⟩ rfl ?c3 ?c4 ?c5 ?_))
  case c3 => have := HLL.out; unfold maxLen; simp [ByteArray.size]; omega
  case c4 => have := HLL.out; simp [ByteArray.size]; omega
  case c5 => omega
  intro v' w2 hown' hgrow _
  obtain ⟨hb2, hbw2⟩ := put_any hB hs1 hbk hne hown (Below.refl w1.heap.size w1) hgrow
  have d1 : w2.cell? ⟨b, 1, none⟩ = some v := by rw [Lib.cell_of_heap hb2]; rfl
  have f1 : w2.frozen? ⟨b, 1, none⟩ = false := Lib.frozen_of_heap hb2 1
  have HO := hid hown'
  have e : Lib.strCells ⟨s.toArray⟩ = Lib.byteCells s := by simp [Lib.strCells, Lib.byteCells]
  have E := hid e
  have hform : (∃ A n c, v' = .slice A n c) := by
    rcases hown'.2 with ⟨hv, _⟩ | ⟨g, cap, cur, hv, _⟩
    · exact ⟨_, _, _, hv⟩
    · exact ⟨_, _, _, hv⟩
  obtain ⟨A, n', c', rfl⟩ := hform
  clear hown' hown e
  go_wp2
  go_ret2
  refine ⟨rfl, Or.inr ?_, (hb1.trans hbw2).setCell (p := ⟨b, 1, none⟩) hB _⟩
  have h3 := HO.out
  rw [E.out, cells_app] at h3
  refine Lib.BuilderAt.put hB hb2 (bs' := Lib.byteCells (l ++ s)) ?_ (by decide)
  have e2 : (Lib.byteCells l).length + (⟨s.toArray⟩ : ByteArray).size = (Lib.byteCells (l ++ s)).length := by simp [Lib.byteCells, ByteArray.size]
  rw [← e2]
  exact h3
theorem btext_any (B b : Nat) (l : List UInt8) (w : World) (h : isB w B b l) (hBw : B ≤ w.heap.size) :
    Calls Try.prog 116 #[.pointer (some ⟨b, 0, none⟩)] w fun e w' => e = .returned (.string ⟨l.toArray⟩) ∧ Below B w w' := Try.Builder_String_any B b l w h hBw
theorem isB.new (w : World) : isB (w.alloc (.cells #[.pointer none, .slice none 0 0] 144)) w.heap.size w.heap.size [] := Lib.fresh_isBuilder _ _ w
theorem isB.drew {w : World} {B b : Nat} {l : List UInt8} (h : isB w B b l) : isB w.drew B b l := h
/-- work that only makes memory leaves a builder as it is -/
theorem isB.keep {w w' : World} {B b : Nat} {l : List UInt8} (h : isB w B b l) (hb : Below w.heap.size w w') : isB w' B b l := by
  have key : ∀ p, Lib.BuilderAt 144 5 B b p (Lib.byteCells l) w → Lib.BuilderAt 144 5 B b p (Lib.byteCells l) w' := by
    rintro p ⟨hB, v, hbk, hown, hne⟩
    exact ⟨hB, v, (hb.block b (Array.getElem?_eq_some_iff.1 hbk).1).trans hbk, own_keep hown hb, hne⟩
  rcases h with h | h
  · exact Or.inl (key _ h)
  · exact Or.inr (key _ h)
end Go.Proofs.Ytcfohdkdppiekaa
