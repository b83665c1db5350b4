/- All intervals of a window, one by one: the iterator. -/
import Derived.Test.YtcfohdkdppiekaaWWinNext
import Derived.Test.YtcfohdkdppiekaaSchedIn
import Derived.Test.YtcfohdkdppiekaaMarks
import Derived.Shelf.Abstract
import Derived.Shelf.RegionOpen
namespace Go.Proofs.Ytcfohdkdppiekaa
open Go Go.RowKit Go.Proofs
attribute [local go_sem] Oper.semAt_some
theorem arr_bears {b : Nat} {T : TypeId} {xs : List Value} {W : World} {l : Nat} {o o' : Obj} (ho : W.heap[l]? = some o) (hc : o.isCells = false) (h : arr W b T xs) : arr (W.putObj l o') b T xs := by
  unfold Go.Proofs.Ytcfohdkdppiekaa.arr at *
  rw [World.putObj_heap_other]; exact h
  rintro rfl
  rw [h] at ho; cases ho; cases hc
theorem isW.bears {g most l : Nat} {L : List Iv} {W : World} {o o' : Obj} (ho : W.heap[l]? = some o) (hc : o.isCells = false) (h : isW W g most L) : isW (W.putObj l o') g most L := by
  obtain ⟨cs, p, h1, h2, h3, h4, h5, h6⟩ := h
  exact ⟨cs, p, h1, h2, h3, h4, h5, arr_bears ho hc h6⟩
set_option maxRecDepth 100000 in
theorem all_any (g : Nat) (w : World) :
    Calls Try.prog 119 #[.pointer (some ⟨g, 0, none⟩)] w fun e w' => e = .returned (.func (.func 155) #[] #[.pointer (some ⟨w.heap.size, 0, none⟩)]) ∧
      arr w' w.heap.size 47 [.pointer (some ⟨g, 0, none⟩)] ∧ Below w.heap.size w w' := by
  go_enter Try.func119, Try.ntmps119
  go_wp2
  go_ret
  exact ⟨rfl, arr.new w 47 [.pointer (some ⟨g, 0, none⟩)], (Below.refl _ _).alloc (Nat.le_refl _) _⟩
/-- between two rounds -/
structure Al (g most : Nat) (L : List Iv) (pb : Nat) (I : List Iv → World → Prop) (pre : List Iv) (W : World) : Prop where
  eq : pre = L.take pre.length
  len : pre.length ≤ L.length
  win : isW W g most L
  box : arr W pb 47 [.pointer (some ⟨g, 0, none⟩)]
  own : I pre W
def encI (x : Iv) : Array Value := #[.agg #[.int .u64 (x.1 : Int), .int .u64 (x.2.1 : Int), .string ⟨x.2.2.toArray⟩]]
set_option maxRecDepth 100000 in
set_option maxHeartbeats 2000000 in
theorem all1_iter (l D : Nat) (r : Loop) (g most : Nat) (L : List Iv) (pb : Nat) (I : List Iv → World → Prop) (Ix : Code → List Iv → World → Prop)
    (hmove : ∀ pre A B, I pre A → Below A.heap.size A B → I pre B)
    (hy : ∀ pre x W, LoopAt l D r W → Al g most L pb I pre W ∧ L[pre.length]? = some x → Yields Try.prog l D r encI (Al g most L pb I) Ix pre x W) (W1 : World) (hL : LoopAt l D r W1) (hJ : Al g most L pb I [] W1) :
    CallsIn Fence.wide 0 Try.prog 155 (#[.func (.yield l) #[] #[]] ++ #[.pointer (some ⟨pb, 0, none⟩)]) W1 fun e W' => (∃ v, e = .returned v) ∧
      ((∃ xs, xs = L ∧ LoopAt l D r W' ∧ Al g most L pb I xs W') ∨ (∃ pre c, Ix c pre W' ∧ W'.heap[l]? = some (.loop { r with state := .done, pending := some c }) ∧ W'.heap[D]? = some (.deferred (some [])))) := by
  refine callsIn_of_wp Try.func155 rfl trivial ?_ rfl
  simp only [Try.ntmps155, List.size_toArray, List.length_cons, List.length_nil, Nat.reduceAdd, Nat.reduceSub, Array.replicate_succ, Array.replicate_zero, List.push_toArray, List.append_toArray, List.nil_append, List.cons_append]
  have HY := hid hy
  have HM := hid hmove
  have HL := hid hL
  have HJ := hid hJ
  clear hy hmove hL hJ
  gi_wp2
  gi_loopw [3] (fun i wr => ∃ pre : List Iv, i = .int .i64 (pre.length : Int) ∧ LoopAt l D r wr ∧ Al g most L pb I pre wr) (fun i _ => L.length - (intOf i).toNat)
  case atStart => exact ⟨[], rfl, HL.out, HJ.out⟩
  case round =>
    obtain ⟨pre, rfl, hl, hd⟩ := hrel
    have hle := hd.len
    have cb := hd.box.cell 0 _ rfl
    have lb := hd.box.lt
    have HW := hid hd.win
    have HD := hid hd
    have HLR := hid hl
    clear hd hl
    by_cases hlt : pre.length < L.length
    · have hlt' : (pre.length : Int) < (L.length : Int) := by omega
      obtain ⟨cs, p, hc, hm, h1, h32, hk, ha⟩ := HW.out
      obtain ⟨x, hx⟩ : ∃ x, L[pre.length]? = some x := ⟨_, List.getElem?_eq_getElem hlt⟩
      obtain ⟨j, hj⟩ : ∃ j, j = (p + pre.length) % 32 := ⟨_, rfl⟩
      have hj32 : j < 32 := by omega
      have e0 := hc.at0 _ x hx
      have e1 := hc.at1 _ x hx
      have e2 := hc.at2 _ x hx
      rw [← hj] at e0 e1 e2
      have c0 := ha.cell (3 * j) _ (by rw [List.getElem?_append_left (by rw [hc.len]; omega)]; exact e0)
      have c1 := ha.cell (3 * j + 1) _ (by rw [List.getElem?_append_left (by rw [hc.len]; omega)]; exact e1)
      have c2 := ha.cell (3 * j + 2) _ (by rw [List.getElem?_append_left (by rw [hc.len]; omega)]; exact e2)
      have cp := (win_cell hc.len ha).1
      have lg := ha.lt
      have hp := hc.hp
      have HJJ := hid hj
      have hll : pre.length ≤ 1000 := by omega
      clear hj e0 e1 e2 ha hk hc
      have hy := HY.out pre x wr.drew (HLR.out.below (Below.refl _ _).drew) ⟨⟨HD.out.eq, HD.out.len, HW.out.keep (Below.refl _ _).drew, HD.out.box.keep (Below.refl _ _).drew, HM.out _ _ _ HD.out.own (Below.refl _ _).drew⟩, hx⟩
      obtain ⟨fn, tmps, assign, body, hyy, hR⟩ := hy
      unfold encI at hyy
      have HR := hid hR
      clear hR
      gi_wp2_with fail
      refine wpIn_region_sched none (fun W => W = wr.drew) [(true, 0), (true, 1), (false, 2), (true, 3), (true, 4), (true, 5), (true, 6), (true, 7), (true, 8), (true, 10), (true, 11), (false, 9), (true, 12), (true, 13)] 14 rfl (by kernel_rfl) (by kernel_rfl) (by kernel_rfl) (by decide) rfl (by kernel_rfl) (by kernel_rfl) rfl ?_
      refine sq_soft rfl (by kernel_rfl) (fun W hW => (by subst hW; go_simp; try rfl)) ?_; go_frame
      refine sq_soft rfl (by kernel_rfl) (fun W hW => (by subst hW; go_simp; try rfl)) ?_; go_frame
      refine sq_op rfl (by kernel_rfl) ?_
      go_simp
      refine (wlen_any g most L wr.drew (HW.out.keep (Below.refl _ _).drew)).mono ?_
      rintro e w2 ⟨rfl, hw2⟩
      subst w2
      refine ⟨rfl, ?_⟩
      refine sq_soft rfl (by kernel_rfl) (fun W hW => (by subst hW; go_simp; try rfl)) ?_; go_frame
      refine sq_soft rfl (by kernel_rfl) (fun W hW => (by subst hW; go_simp; try rfl)) ?_; go_frame
      refine sq_soft rfl (by kernel_rfl) (fun W hW => (by subst hW; go_simp; try rfl)) ?_; go_frame
      refine sq_soft rfl (by kernel_rfl) (fun W hW => (by subst hW; go_simp; try rfl)) ?_; go_frame
      refine sq_soft rfl (by kernel_rfl) (fun W hW => (by subst hW; go_simp; try rfl)) ?_; go_frame
      refine sq_soft rfl (by kernel_rfl) (fun W hW => (by subst hW; go_simp; try rfl)) ?_; go_frame
      refine sq_soft rfl (by kernel_rfl) (fun W hW => (by subst hW; go_simp; try rfl)) ?_; go_frame
      refine sq_soft rfl (by kernel_rfl) (fun W hW => (by subst hW; go_simp; try rfl)) ?_; go_frame
      refine sq_op rfl (by kernel_rfl) ?_
      go_simp
      refine (wplace_eq g pre.length p hll hp wr.drew cp lg).mono ?_
      rintro e w2 ⟨rfl, hw2⟩
      subst w2
      refine ⟨rfl, ?_⟩
      rw [← HJJ.out]
      have hjI : (j : Int) < 32 := by omega
      refine sq_soft rfl (by kernel_rfl) (fun W hW => (by subst hW; go_simp; try rfl)) ?_; go_frame
      refine sq_soft rfl (by kernel_rfl) (v := .agg [.int .u64 (x.1 : Int), .int .u64 (x.2.1 : Int), .string ⟨x.2.2.toArray⟩].toArray) (fun W hW => (by subst hW; exact exec_load_part 153 _ rfl g (j * 3) rfl _ _ (by rw [Nat.mul_comm]; exact three_cells c0 c1 c2) Try.underlying153 rfl (by kernel_rfl))) ?_; go_frame
      refine sched_done ?_
      gi_wp2
      refine ⟨rfl, RoundIn.mono (F := Fence.wide) HR.out ?_⟩
      rintro e w3 (⟨rfl, hl3, hd3⟩ | ⟨rfl, c, hc3, hl3, hdf3⟩)
      · have HL3 := hid hl3
        have HD3 := hid hd3
        clear hl3 hd3 HR
        gi_wp2
        go_roundw
        case rel =>
          refine ⟨pre ++ [x], ?_, HL3.out, HD3.out⟩
          simp
        case measure => simp [intOf]; omega
      · gi_wp2
        go_end0
        exact ⟨⟨_, rfl⟩, Or.inr ⟨pre ++ [x], c, hc3, hl3, hdf3⟩⟩
    · have e : pre.length = L.length := by omega
      have hlt' : ¬ (pre.length : Int) < (L.length : Int) := by omega
      have HE := hid e
      clear e
      gi_wp2_with fail
      refine wpIn_region_sched none (fun W => W = wr.drew) [(true, 0), (true, 1), (false, 2), (true, 3), (true, 4), (true, 5), (true, 6), (true, 7), (true, 8), (true, 10), (true, 11), (false, 9), (true, 12), (true, 13)] 14 rfl (by kernel_rfl) (by kernel_rfl) (by kernel_rfl) (by decide) rfl (by kernel_rfl) (by kernel_rfl) rfl ?_
      refine sq_soft rfl (by kernel_rfl) (fun W hW => (by subst hW; go_simp; try rfl)) ?_; go_frame
      refine sq_soft rfl (by kernel_rfl) (fun W hW => (by subst hW; go_simp; try rfl)) ?_; go_frame
      refine sq_op rfl (by kernel_rfl) ?_
      go_simp
      refine (wlen_any g most L wr.drew (HW.out.keep (Below.refl _ _).drew)).mono ?_
      rintro e w2 ⟨rfl, hw2⟩
      subst w2
      refine ⟨rfl, ?_⟩
      refine sq_soft rfl (by kernel_rfl) (fun W hW => (by subst hW; go_simp; try rfl)) ?_; go_frame
      refine sq_soft rfl (by kernel_rfl) (fun W hW => (by subst hW; go_simp; try rfl)) ?_; go_frame
      refine sq_skip rfl (by kernel_rfl) ?_; go_frame
      refine sq_skip rfl (by kernel_rfl) ?_; go_frame
      refine sq_skip rfl (by kernel_rfl) ?_; go_frame
      refine sq_skip rfl (by kernel_rfl) ?_; go_frame
      refine sq_skip rfl (by kernel_rfl) ?_; go_frame
      refine sq_skip rfl (by kernel_rfl) ?_; go_frame
      refine sq_pass rfl (by kernel_rfl) rfl ?_; go_frame
      refine sq_skip rfl (by kernel_rfl) ?_; go_frame
      refine sq_skip rfl (by kernel_rfl) ?_; go_frame
      refine sched_done ?_
      gi_wp2
      refine ⟨fun f hf => (by cases hf), ?_⟩
      gi_wp2
      go_end0
      refine ⟨⟨_, rfl⟩, Or.inl ⟨pre, ?_, HLR.out.below (Below.refl _ _).drew, HD.out.eq, HD.out.len, HW.out.keep (Below.refl _ _).drew, HD.out.box.keep (Below.refl _ _).drew, HM.out _ _ _ HD.out.own (Below.refl _ _).drew⟩⟩
      rw [HD.out.eq, HE.out, List.take_length]
end Go.Proofs.Ytcfohdkdppiekaa
