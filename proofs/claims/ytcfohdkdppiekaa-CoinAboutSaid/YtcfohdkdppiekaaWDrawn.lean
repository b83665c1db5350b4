/- The stream's bytes, one by one: the iterator. -/
import Derived.Test.YtcfohdkdppiekaaWStream
import Derived.Test.YtcfohdkdppiekaaRange
import Derived.Shelf.Abstract
import Derived.Shelf.RegionOpen
namespace Go.Proofs.Ytcfohdkdppiekaa
open Go Go.RowKit Go.Proofs
attribute [local go_sem] Oper.semAt_some
structure Boxes (W : World) (g n nb pb : Nat) : Prop where
  n : arr W nb 3 [.int .i64 (n : Int)]
  s : arr W pb 77 [.pointer (some ⟨g, 0, none⟩)]
set_option maxRecDepth 100000 in
theorem drawn_any (g n : Nat) (w : World) :
    Calls Try.prog 121 #[.pointer (some ⟨g, 0, none⟩), .int .i64 (n : Int)] w fun e w' => e = .returned (.func (.func 156) #[] #[.pointer (some ⟨w.heap.size + 1, 0, none⟩), .pointer (some ⟨w.heap.size, 0, none⟩)]) ∧
      Boxes w' g n (w.heap.size + 1) w.heap.size ∧ Below w.heap.size w w' ∧ w'.heap.size = w.heap.size + 2 := by
  go_enter Try.func121, Try.ntmps121
  go_wp2
  go_ret
  refine ⟨rfl, ⟨arr.newAt _ 3 [.int .i64 (n : Int)] (w.heap.size + 1) (by simp), (arr.new w 77 [.pointer (some ⟨g, 0, none⟩)]).alloc _⟩, ((Below.refl _ _).alloc (Nat.le_refl _) _).alloc (by simp) _, by simp⟩
/-- between two rounds -/
structure Dr (g : Nat) (s : List UInt8) (k0 n nb pb : Nat) (I : Nat → World → Prop) (pre : List UInt8) (W : World) : Prop where
  eq : pre = sbs s k0 pre.length
  len : pre.length ≤ n
  own : I pre.length W
  st : isS W g s (k0 + pre.length)
  box : Boxes W g n nb pb
/-- when a byte is handed over -/
structure DrY (g : Nat) (s : List UInt8) (k0 n nb pb : Nat) (I : Nat → World → Prop) (pre : List UInt8) (x : UInt8) (W : World) : Prop where
  eq : pre = sbs s k0 pre.length
  len : pre.length < n
  val : x = sb s (k0 + pre.length)
  own : I pre.length W
  st : isS W g s (k0 + pre.length + 1)
  box : Boxes W g n nb pb
def encB (x : UInt8) : Array Value := #[.int .u8 (x.toNat : Int)]
theorem Boxes.grown {W W' : World} {g n nb pb : Nat} (h : Boxes W g n nb pb) (hg : W.grownBy W' (some g)) (h1 : nb ≠ g) (h2 : pb ≠ g) : Boxes W' g n nb pb := ⟨h.n.kept hg h1, h.s.kept hg h2⟩
theorem isS.arr {W : World} {g k : Nat} {s : List UInt8} (h : isS W g s k) : ∃ xs : List Value, W.heap[g]? = some (.cells xs.toArray 163 (0, 0)) := by
  obtain ⟨blk, n, hn, ha, hx⟩ := h
  exact ⟨_, ha⟩
theorem arr_ne {W : World} {b g : Nat} {T T' : TypeId} {xs ys : List Value} (h : arr W b T xs) (h' : arr W g T' ys) (hT : T ≠ T') : b ≠ g := by
  rintro rfl
  unfold Go.Proofs.Ytcfohdkdppiekaa.arr at h h'
  rw [h] at h'
  simp only [Option.some.injEq, Obj.cells.injEq] at h'
  exact hT h'.2.1
set_option maxRecDepth 100000 in
set_option maxHeartbeats 2000000 in
theorem drawn1_iter (l D : Nat) (r : Loop) (g : Nat) (s : List UInt8) (hs : s.length = 32) (k0 n nb pb : Nat) (hk : k0 + n < 1000000000000) (I : Nat → World → Prop)
    (hmove : ∀ j A B, I j A → isS A g s (k0 + j) → A.grownBy B (some g) → I j B)
    (hy : ∀ pre x W, LoopAt l D r W → DrY g s k0 n nb pb I pre x W → YieldsOn Try.prog l D r encB (Dr g s k0 n nb pb I) pre x W) (W1 : World) (hL : LoopAt l D r W1) (hJ : Dr g s k0 n nb pb I [] W1) :
    CallsIn Fence.wide 0 Try.prog 156 (#[.func (.yield l) #[] #[]] ++ #[.pointer (some ⟨nb, 0, none⟩), .pointer (some ⟨pb, 0, none⟩)]) W1 fun e W' => (∃ v, e = .returned v) ∧ ∃ xs, xs = sbs s k0 n ∧ LoopAt l D r W' ∧ Dr g s k0 n nb pb I xs W' := by
  refine callsIn_of_wp Try.func156 rfl trivial ?_ rfl
  simp only [Try.ntmps156, List.size_toArray, List.length_cons, List.length_nil, Nat.reduceAdd, Nat.reduceSub, Array.replicate_succ, Array.replicate_zero, List.push_toArray, List.append_toArray, List.nil_append, List.cons_append]
  have c1 := hJ.box.n.cell 0 _ rfl
  have HY := hid hy
  have HM := hid hmove
  have HS := hid hs
  have HL := hid hL
  have HJ := hid hJ
  clear hy hmove hs hL hJ
  gi_wp2
  gi_loopw [5] (fun i wr => ∃ pre : List UInt8, i = .int .i64 (pre.length : Int) ∧ LoopAt l D r wr ∧ Dr g s k0 n nb pb I pre wr) (fun i _ => n - (intOf i).toNat)
  case atStart => exact ⟨[], rfl, HL.out, HJ.out⟩
  case round =>
    obtain ⟨pre, rfl, hl, hd⟩ := hrel
    have hle := hd.len
    have c2 := hd.box.s.cell 0 _ rfl
    have HD := hid hd
    have HLR := hid hl
    clear hd hl c1
    by_cases hlt : pre.length < n
    · have hlt' : (pre.length : Int) < (n : Int) := by omega
      gi_wp2_with fail
      refine ⟨trivial, rfl, (callsIn_wide.2 (next_any g s HS.out (k0 + pre.length) (by omega) wr HD.out.st)).mono ?_⟩
      rintro e w2 ⟨rfl, hst, hg⟩
      obtain ⟨xs, hxs⟩ := HD.out.st.arr
      have hl2 : LoopAt l D r w2 := HLR.out.grown hg hxs
      have hb2 : Boxes w2 g n nb pb := HD.out.box.grown hg (arr_ne HD.out.box.n hxs (by decide)) (arr_ne HD.out.box.s hxs (by decide))
      obtain ⟨fn, tmps, assign, body, hyy, hR⟩ := HY.out pre (sb s (k0 + pre.length)) w2 hl2 ⟨HD.out.eq, hlt, rfl, HM.out _ _ _ HD.out.own HD.out.st hg, hst, hb2⟩
      unfold encB at hyy
      have HR := hid hR
      clear hR hl2 hb2 hxs hg hst c2
      gi_wp2
      refine ⟨rfl, HR.out.mono ?_⟩
      rintro e w3 ⟨rfl, hl3, hd3⟩
      have HL3 := hid hl3
      have HD3 := hid hd3
      clear hl3 hd3 HR
      gi_wp2
      go_roundw
      case rel =>
        refine ⟨pre ++ [sb s (k0 + pre.length)], ?_, HL3.out, HD3.out⟩
        simp
      case measure => simp [intOf]; omega
    · have e : pre.length = n := by omega
      have hlt' : ¬ (pre.length : Int) < (n : Int) := by omega
      have HE := hid e
      clear e hlt
      gi_wp2
      go_end0
      refine ⟨⟨_, rfl⟩, HLR.out, ?_⟩
      have e2 := HD.out.eq
      rw [HE.out] at e2
      rw [← e2]
      exact HD.out
theorem drawn_enters : ∀ args w, (callFunc 156 args).run Try.prog w = .ok (.enter 156 args) w := enters_of Try.func156 (by kernel_rfl) rfl
theorem isS.bears {g k : Nat} {s : List UInt8} {W : World} {l : Nat} {o o' : Obj} (ho : W.heap[l]? = some o) (hc : o.isCells = false) (h : isS W g s k) : isS (W.putObj l o') g s k := by
  obtain ⟨blk, n, hn, ha, hx⟩ := h
  refine ⟨blk, n, hn, ?_, hx⟩
  unfold Go.Proofs.Ytcfohdkdppiekaa.arr at *
  rw [World.putObj_heap_other]; exact ha
  rintro rfl
  rw [ha] at ho; cases ho; cases hc
theorem arr.bears {b : Nat} {T : TypeId} {xs : List Value} {W : World} {l : Nat} {o o' : Obj} (ho : W.heap[l]? = some o) (hc : o.isCells = false) (h : arr W b T xs) : arr (W.putObj l o') b T xs := by
  unfold Go.Proofs.Ytcfohdkdppiekaa.arr at *
  rw [World.putObj_heap_other]; exact h
  rintro rfl
  rw [h] at ho; cases ho; cases hc
theorem Boxes.bears {W : World} {g n nb pb l : Nat} {o o' : Obj} (ho : W.heap[l]? = some o) (hc : o.isCells = false) (h : Boxes W g n nb pb) : Boxes (W.putObj l o') g n nb pb := ⟨h.n.bears ho hc, h.s.bears ho hc⟩
/-- a range over a stream's bytes -/
theorem range_drawn {G : Operand} {p : Tmp} {assign body : Code} {Q : Exit → Act → World → Prop} {a : Act} {w : World} (g : Nat) (s : List UInt8) (hs : s.length = 32) (k0 n nb pb : Nat) (hk : k0 + n < 1000000000000)
    (hg : a.eval G = .func (.func 156) #[] #[.pointer (some ⟨nb, 0, none⟩), .pointer (some ⟨pb, 0, none⟩)]) (hS : isS w g s k0) (hBx : Boxes w g n nb pb)
    (I : Nat → World → Prop) (hmove : ∀ j A B, I j A → isS A g s (k0 + j) → A.grownBy B (some g) → I j B) (hI : ∀ j, Bears w.heap.size (I j)) (h0 : ∀ o1 o2, I 0 ((w.alloc o1).alloc o2))
    (hround : ∀ (l : Nat) (pre : List UInt8) (x : UInt8) (W : World), (∀ K : Act → World → Prop, (∀ a' W', W' = W → (∀ W2, DrY g s k0 n nb pb I pre x W2 → body.wpIn (Fence.wide.inRound l) 0 Try.prog (leftBy (Dr g s k0 n nb pb I) (fun _ _ _ => False) (pre ++ [x]) W2) a' W2) → K a' W') →
      assign.wpIn (Fence.wide.inRound l) 0 Try.prog (Exit.then K (fun _ _ _ => False)) { tmps := a.tmps.setIfInBounds p (.int .u8 (x.toNat : Int)), defers := [] } W))
    (hdone : ∀ (D : Nat) (W : World), w.heap.size ≤ D → I n W → isS W g s (k0 + n) → W.heap[D]? = some (.deferred (some [])) → Q .normal { a with defers := { target := .collected D, args := #[] } :: a.defers } W) :
    (Code.rangeFunc G #[p] assign body).wp Try.prog Q a w := by
  refine wp_range_all hg drawn_enters encB (fun x => rfl) (Dr g s k0 n nb pb I) (DrY g s k0 n nb pb I) (fun l pre x a' W => (∀ W2, DrY g s k0 n nb pb I pre x W2 → body.wpIn (Fence.wide.inRound l) 0 Try.prog (leftBy (Dr g s k0 n nb pb I) (fun _ _ _ => False) (pre ++ [x]) W2) a' W2) ∧ DrY g s k0 n nb pb I pre x W) (fun xs => xs = sbs s k0 n) ?_ ?_ ?_ ?_ ?_ ?_ ?_
  · intro pre W l o o' hl ho hc h
    exact ⟨h.eq, h.len, hI _ _ _ _ _ hl ho hc h.own, h.st.bears ho hc, h.box.bears ho hc⟩
  · rintro l0 pre x a' W l o o' hl ho hc ⟨h1, h⟩
    exact ⟨h1, h.eq, h.len, h.val, hI _ _ _ _ _ hl ho hc h.own, h.st.bears ho hc, h.box.bears ho hc⟩
  · intro o1 o2
    have hb : Below w.heap.size w ((w.alloc o1).alloc o2) := ((Below.refl _ _).alloc (Nat.le_refl _) _).alloc (by simp) _
    exact ⟨rfl, Nat.zero_le _, h0 o1 o2, hS.keep hb, ⟨hBx.n.keep hb, hBx.s.keep hb⟩⟩
  · intro l D r W1 _ _ hL hJ hy
    exact drawn1_iter l D r g s hs k0 n nb pb hk I hmove hy W1 hL hJ
  · intro l pre x W K hjy hK
    have e : (#[p].zip (encB x)).foldl (fun t (p, v) => t.setIfInBounds p v) a.tmps = a.tmps.setIfInBounds p (.int .u8 (x.toNat : Int)) := by simp [encB]
    rw [e]
    refine hround l pre x W K fun a' W' hW hb => ?_
    subst hW
    exact hK _ _ (KeepsOthers.refl _) ⟨hb, hjy⟩
  · rintro l pre x a' W ⟨h1, h⟩
    exact h1 W h
  · rintro D xs W hD rfl hJ hdf
    have hn := sbs_len s k0 n
    have h1 := hJ.own
    have h2 := hJ.st
    rw [hn] at h1 h2
    exact hdone D W hD h1 h2 hdf
end Go.Proofs.Ytcfohdkdppiekaa
