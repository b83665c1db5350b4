/- The steps of a chain: the iterator. -/
import Derived.Test.YtcfohdkdppiekaaWRefWalk
import Derived.Test.YtcfohdkdppiekaaSchedIn
import Derived.Test.YtcfohdkdppiekaaMarks
import Derived.Test.YtcfohdkdppiekaaBears
import Derived.Shelf.Abstract
import Derived.Shelf.RegionOpen
import Derived.Laws.EntriesVeiled
namespace Go.Proofs.Ytcfohdkdppiekaa
open Go Go.RowKit Go.Proofs
attribute [local go_sem] Oper.semAt_some
/-- one byte as a text, within a fence -/
theorem wpListIn_b2s {ro : Option Nat} {ops : Array Oper} {rest : List Oper} {o : Oper} {a : Act} {w : World} {Q : Exit → Act → World → Prop} (hgd : o.guard = none) (x : Operand) (ho : o.op = .convert 22 9 x) (b off n cap : Nat) (l : List UInt8)
    (hx : a.eval x = .slice (some ⟨b, off, none⟩) n cap) (hl : l.length = n) (hc : ∀ i, i < l.length → w.cell? ⟨b, off + i, none⟩ = some (.int .u8 ((l.getD i 0).toNat : Int)))
    (h : wpListIn (Fw ro) 0 Try.prog ops Q rest (a.put o.dst (.string ⟨l.toArray⟩)) w) : wpListIn (Fw ro) 0 Try.prog ops Q (o :: rest) a w := by
  refine wpListIn_plain hgd fun K hK => ?_
  have := b2s_run w b off n cap l hl (fun i hi => hc i (by omega))
  unfold Oper.wpIn
  refine ⟨fun _ _ => trivial, ?_⟩
  rw [Oper.semAt_plain _ _ _ (by rw [ho]; intro c hc; cases hc)]
  simp only [execOp, ho, Sem.run_bind, hx, this, Result.andThen_ok, Sem.run_pure]
  exact hK _ _ h
/-- the boxes of a chain's steps -/
structure StB (i a b bf bx bt bi : Nat) (y : List UInt8) (W : World) : Prop where
  f : arr W bf 3 [.int .i64 (a : Int)]
  x : arr W bx 9 [.string ⟨y.toArray⟩]
  t : arr W bt 3 [.int .i64 (b : Int)]
  n : arr W bi 3 [.int .i64 (i : Int)]
theorem StB.keep {i a b bf bx bt bi : Nat} {y : List UInt8} {W W' : World} (h : StB i a b bf bx bt bi y W) (hb : Below W.heap.size W W') : StB i a b bf bx bt bi y W' := ⟨h.f.keep hb, h.x.keep hb, h.t.keep hb, h.n.keep hb⟩
theorem StB.bears {i a b bf bx bt bi l : Nat} {y : List UInt8} {W : World} {o o' : Obj} (ho : W.heap[l]? = some o) (hc : o.isCells = false) (h : StB i a b bf bx bt bi y W) : StB i a b bf bx bt bi y (W.putObj l o') :=
  ⟨arr_bears ho hc h.f, arr_bears ho hc h.x, arr_bears ho hc h.t, arr_bears ho hc h.n⟩
set_option maxRecDepth 100000 in
theorem steps_any (i a b : Nat) (x : List UInt8) (w : World) :
    Calls Try.prog 132 #[.int .i64 (i : Int), .int .i64 (a : Int), .int .i64 (b : Int), .string ⟨x.toArray⟩] w fun e w' => e = .returned (.func (.func 160) #[] #[.pointer (some ⟨w.heap.size + 1, 0, none⟩), .pointer (some ⟨w.heap.size + 1 + 1 + 1, 0, none⟩), .pointer (some ⟨w.heap.size + 1 + 1, 0, none⟩), .pointer (some ⟨w.heap.size, 0, none⟩)]) ∧
      StB i a b (w.heap.size + 1) (w.heap.size + 1 + 1 + 1) (w.heap.size + 1 + 1) w.heap.size x w' ∧ Below w.heap.size w w' ∧ w.heap.size + 1 + 1 + 1 < w'.heap.size := by
  go_enter Try.func132, Try.ntmps132
  go_wp2
  go_ret
  refine ⟨rfl, ⟨((arr.newAt (w.alloc _) _ [_] _ (by simp)).alloc _).alloc _, arr.newAt (((w.alloc _).alloc _).alloc _) _ [_] _ (by simp), (arr.newAt ((w.alloc _).alloc _) _ [_] _ (by simp)).alloc _, (((arr.new w _ [_]).alloc _).alloc _).alloc _⟩,
    ((((Below.refl _ _).alloc (Nat.le_refl _) _).alloc (by simp) _).alloc (by simp; omega) _).alloc (by simp; omega) _, by simp⟩
/-- between two rounds -/
structure Sp (i a b bf bx bt bi : Nat) (x : List UInt8) (I : List (List UInt8) → World → Prop) (pre : List (List UInt8)) (W : World) : Prop where
  len : pre.length ≤ b - a + 1
  last : pre ≠ [] → pre.getLast? = some (wk i a (pre.length - 1) x)
  box : StB i a b bf bx bt bi (wk i a (pre.length - 1) x) W
  own : I pre W
/-- when one is handed over -/
structure SpY (i a b bf bx bt bi : Nat) (x : List UInt8) (I : List (List UInt8) → World → Prop) (pre : List (List UInt8)) (v : List UInt8) (W : World) : Prop where
  len : pre.length ≤ b - a
  val : v = wk i a pre.length x
  box : StB i a b bf bx bt bi (wk i a pre.length x) W
  own : I pre W
def encS (x : List UInt8) : Array Value := #[.string ⟨x.toArray⟩]
set_option maxRecDepth 100000 in
set_option maxHeartbeats 4000000 in
theorem steps1_iter (l D : Nat) (r : Loop) (i a b bf bx bt bi : Nat) (hi : i ≤ 66) (hab : a ≤ b) (hb : b ≤ 15) (x : List UInt8) (hx : x.length ≤ 1000000) (hne : bx ≠ bf ∧ bx ≠ bt ∧ bx ≠ bi) (I : List (List UInt8) → World → Prop)
    (hmove : ∀ pre A B, I pre A → A.grownBy B (some bx) → I pre B)
    (hy : ∀ pre v W, LoopAt l D r W → SpY i a b bf bx bt bi x I pre v W → YieldsOn Try.prog l D r encS (Sp i a b bf bx bt bi x I) pre v W) (W1 : World) (hL : LoopAt l D r W1) (hJ : Sp i a b bf bx bt bi x I [] W1) :
    CallsIn Fence.wide 0 Try.prog 160 (#[.func (.yield l) #[] #[]] ++ #[.pointer (some ⟨bf, 0, none⟩), .pointer (some ⟨bx, 0, none⟩), .pointer (some ⟨bt, 0, none⟩), .pointer (some ⟨bi, 0, none⟩)]) W1 fun e W' => (∃ v, e = .returned v) ∧
      ∃ xs, xs.length = b - a + 1 ∧ LoopAt l D r W' ∧ Sp i a b bf bx bt bi x I xs W' := by
  refine callsIn_of_wp Try.func160 rfl trivial ?_ rfl
  simp only [Try.ntmps160, List.size_toArray, List.length_cons, List.length_nil, Nat.reduceAdd, Nat.reduceSub, Array.replicate_succ, Array.replicate_zero, List.push_toArray, List.append_toArray, List.nil_append, List.cons_append]
  have c1 := hJ.box.f.cell 0 _ rfl
  have l1 := hJ.box.f.lt
  have HY := hid hy
  have HM := hid hmove
  have HL := hid hL
  have HJ := hid hJ
  have NE := hid hne
  clear hy hmove hL hJ hne
  gi_wp2
  gi_loopw [6] (fun j wr => ∃ pre : List (List UInt8), j = .int .i64 ((a + pre.length : Nat) : Int) ∧ LoopAt l D r wr ∧ SpY i a b bf bx bt bi x I pre (wk i a pre.length x) wr) (fun j _ => b + 1 - (intOf j).toNat)
  case atStart => exact ⟨[], rfl, HL.out, ⟨by simp, rfl, HJ.out.box, HJ.out.own⟩⟩
  case round =>
    obtain ⟨pre, rfl, hl, hd⟩ := hrel
    have HD := hid hd
    have HLR := hid hl
    obtain ⟨fn, tmps, assign, body, hyy, hR⟩ := HY.out pre _ wr hl hd
    unfold encS at hyy
    have HR := hid hR
    have hlen := hd.len
    obtain ⟨y, hyd⟩ : ∃ y, y = wk i a pre.length x := ⟨_, rfl⟩
    have hyl : y.length ≤ 1000000 := by rw [hyd]; exact wk_len_le i a _ 1000000 x hx (by omega)
    have hbx := hd.box.x
    rw [← hyd] at hyy hbx
    have cx := hbx.cell 0 _ rfl
    have lx := hbx.lt
    obtain ⟨j, hj⟩ : ∃ j, j = a + pre.length := ⟨_, rfl⟩
    rw [← hj]
    have HYD := hid hyd
    have HJJ := hid hj
    have HYL := hid hyl
    clear hR hl hd hbx c1 l1 hyd hj hyl
    gi_wp2
    refine ⟨rfl, HR.out.mono ?_⟩
    rintro e w3 ⟨rfl, hl3, hd3⟩
    have HL3 := hid hl3
    have hbox := hd3.box
    have e1 : (pre ++ [wk i a pre.length x]).length - 1 = pre.length := by simp
    rw [e1, ← HYD.out] at hbox
    have cx3 := hbox.x.cell 0 _ rfl
    have fx3 := hbox.x.free 0
    have lx3 := hbox.x.lt
    have ct3 := hbox.t.cell 0 _ rfl
    have lt3 := hbox.t.lt
    have cn3 := hbox.n.cell 0 _ rfl
    have ln3 := hbox.n.lt
    have HB3 := hid hbox
    have HD3 := hid hd3
    clear hl3 hd3 HR cx lx hyy hbox e1
    by_cases hlt : j < b
    · have hltI : (j : Int) < (b : Int) := by omega
      have hj256 : j < 256 := by omega
      have hi256 : i < 256 := by omega
      gi_wp2_with (first
        | refine wpListIn_b2s (ro := none) rfl _ rfl _ 0 1 1 [UInt8.ofNat i] rfl rfl (byte_cells i hi256 (arr.newAt _ _ [_] _ (by simp))) ?_
        | refine wpListIn_b2s (ro := none) rfl _ rfl _ 0 1 1 [UInt8.ofNat j] rfl rfl (byte_cells j hj256 (arr.newAt _ _ [_] _ (by simp))) ?_)
      obtain ⟨W2, hW2⟩ : ∃ W2, W2 = (w3.alloc (.cells #[.int .u8 (i : Int)] 5)).alloc (.cells #[.int .u8 (j : Int)] 5) := ⟨_, rfl⟩
      have hsz : w3.heap.size + 1 + 1 = W2.heap.size := by rw [hW2]; simp
      have hb2 : Below w3.heap.size w3 W2 := by rw [hW2]; exact ((Below.refl _ _).alloc (Nat.le_refl _) _).alloc (by simp) _
      rw [← hW2, hsz]
      have hp := parts3_len [UInt8.ofNat i] [UInt8.ofNat j] y 1000002 (by have := HYL.out; simp; omega)
      refine ⟨trivial, rfl, calls_fw none ((hash_any tChain [[UInt8.ofNat i], [UInt8.ofNat j], y] _ _ (strsAt.lit' W2 [[UInt8.ofNat i], [UInt8.ofNat j], y] (by have := HYL.out; simp; omega) (by simp) 9) (by decide) (by omega) (by have := HYL.out; simp; omega)).mono ?_)⟩
      rintro e w4 ⟨rfl, b4⟩
      have B4 := hid ((hb2.alloc hb2.size _).trans (b4.mono (by have := hb2.size; simp; omega)))
      have hnext : wk i a (pre.length + 1) x = hsh tChain [[UInt8.ofNat i], [UInt8.ofNat j], y] := by rw [wk_succ, HJJ.out, HYD.out]; rfl
      have HN := hid hnext
      have hb4 := HB3.out.keep B4.out
      have cx4 := hb4.x.cell 0 _ rfl
      have fx4 := hb4.x.free 0
      have lx4 := hb4.x.lt
      have HB4 := hid hb4
      clear b4 hp hb2 hsz hW2 hnext hb4 cx3 fx3 lx3 ct3 lt3 cn3 ln3
      rw [← HN.out]
      gi_wp2
      go_roundw
      case rel =>
        refine ⟨pre ++ [wk i a pre.length x], ?_, ?_, ?_⟩
        · rw [List.length_append, List.length_singleton, ← Nat.add_assoc, ← HJJ.out]; go_num
        · exact (HL3.out.below B4.out).kept (KeepsOthers.setCell _ _ _)
        · have e2 : (pre ++ [wk i a pre.length x]).length = pre.length + 1 := by simp
          refine ⟨by have := HJJ.out; rw [e2]; omega, rfl, ?_, HM.out _ _ _ HD3.out.own (grown_set (grown_below B4.out) 0 _)⟩
          rw [e2]
          exact ⟨HB4.out.f.other _ NE.out.1 _, HB4.out.x.set 0 _, HB4.out.t.other _ NE.out.2.1 _, HB4.out.n.other _ NE.out.2.2 _⟩
      case measure => simp [intOf]; omega
    · have hltI : ¬ (j : Int) < (b : Int) := by omega
      gi_wp2
      go_end0
      refine ⟨⟨_, rfl⟩, pre ++ [wk i a pre.length x], ?_, HL3.out, HD3.out⟩
      have := HJJ.out
      simp; omega
/-- what Walk keeps between two rounds -/
structure WI (w : World) (rb : Nat) (pre : List (List UInt8)) (W : World) : Prop where
  row : ∃ v, arr W rb 9 [.string v] ∧ (pre ≠ [] → ∃ y : List UInt8, pre.getLast? = some y ∧ v = ⟨y.toArray⟩)
  below : Below w.heap.size w W
theorem WI.bears {w W : World} {rb l : Nat} {pre : List (List UInt8)} {o o' : Obj} (h : WI w rb pre W) (hl : w.heap.size ≤ l) (ho : W.heap[l]? = some o) (hc : o.isCells = false) : WI w rb pre (W.putObj l o') := by
  obtain ⟨⟨v, h1, h2⟩, h3⟩ := h
  exact ⟨⟨v, arr_bears ho hc h1, h2⟩, below_put h3 _ _ hl h3.size⟩
theorem load_plain {w : World} {b : Nat} {T ty : TypeId} {v : Value} {d : TypeDesc} (h : arr w b T [v]) (hu : Try.prog.underlying ty = some d) (hd : (match d with | .struct _ | .array _ _ => true | _ => false) = false) : (loadVar ty ⟨b, 0, none⟩).run Try.prog w = .ok v w := by
  have c := h.cell 0 _ rfl
  have hagg : (isAgg ty).run Try.prog w = .ok false w := by
    unfold isAgg
    rw [Sem.run_bind, run_underlying hu w]
    cases d <;> simp_all
  simp [loadVar, Sem.run_bind, hagg]
  go_simp
theorem results_cell1 {P : Program} {fn : Func} {a : Tmp} {ta : TypeId} (h : fn.results = #[.cell a ta]) (tmps : Array Value) (w : World) (pa : Addr) (va : Value)
    (h1 : tmps.getD a undef = .pointer (some pa)) (k1 : (loadVar ta pa).run P w = .ok va w) : (results fn tmps).run P w = .ok va w := by
  rw [Array.getD_eq_getD_getElem?] at h1
  simp [results, h, h1, k1, Sem.run_bind, asAddr]
theorem steps1_enters : ∀ args w, (callFunc 160 args).run Try.prog w = .ok (.enter 160 args) w := enters_of Try.func160 (by kernel_rfl) rfl
set_option maxRecDepth 100000 in
set_option maxHeartbeats 4000000 in
theorem walk_any (i a b : Nat) (hi : i ≤ 66) (hab : a ≤ b) (hb : b ≤ 15) (x : List UInt8) (hx : x.length ≤ 1000000) (w : World) :
    Calls Try.prog 82 #[.int .i64 (i : Int), .int .i64 (a : Int), .int .i64 (b : Int), .string ⟨x.toArray⟩] w fun e w' => e = .returned (.string ⟨(wlk i a b x).toArray⟩) ∧ Below w.heap.size w w' := by
  have k1 : ¬ (i : Int) < 0 := by omega
  have k2 : ¬ 67 ≤ (i : Int) := by omega
  have k3 : ¬ (a : Int) < 0 := by omega
  have k4 : ¬ (b : Int) < (a : Int) := by omega
  have k4' : ¬ b < a := by omega
  have k2' : ¬ 67 ≤ i := by omega
  have k5' : ¬ 15 < b := by omega
  have k5 : ¬ 15 < (b : Int) := by omega
  refine calls_of_marks Try.func82 rfl ?_
  simp only [Try.ntmps82, List.size_toArray, List.length_cons, List.length_nil, Nat.reduceAdd, Nat.reduceSub, Array.replicate_succ, Array.replicate_zero, List.push_toArray, List.append_toArray, List.nil_append, List.cons_append]
  go_wp2_with fail
  obtain ⟨rb, hrb⟩ : ∃ rb, rb = w.heap.size := ⟨_, rfl⟩
  have A1 : arr (w.alloc (.cells #[.string ByteArray.empty] 9)) rb 9 [.string ByteArray.empty] := by rw [hrb]; exact arr.new w _ _
  have B1 : Below w.heap.size w (w.alloc (.cells #[.string ByteArray.empty] 9)) := (Below.refl _ _).alloc (Nat.le_refl _) _
  rw [← hrb]
  rw [show (⟨#[]⟩ : ByteArray) = ByteArray.empty from rfl]
  generalize (w.alloc (.cells #[.string ByteArray.empty] 9)) = w1 at A1 B1 ⊢
  have HR := hid (show w.heap.size ≤ rb by omega)
  clear hrb
  refine (steps_any i a b x w1).mono ?_
  rintro e w2 ⟨rfl, sb, b2, hsz⟩
  have hr1 := A1.lt
  obtain ⟨bi, hbi⟩ : ∃ m, m = w1.heap.size := ⟨_, rfl⟩
  obtain ⟨bf, hbf⟩ : ∃ m, m = w1.heap.size + 1 := ⟨_, rfl⟩
  obtain ⟨bt, hbt⟩ : ∃ m, m = w1.heap.size + 1 + 1 := ⟨_, rfl⟩
  obtain ⟨bx, hbx⟩ : ∃ m, m = w1.heap.size + 1 + 1 + 1 := ⟨_, rfl⟩
  have A2 := A1.keep b2
  have B2 := below_all B1 b2
  rw [← hbx, ← hbt, ← hbf, ← hbi] at sb
  rw [← hbx, ← hbt, ← hbf, ← hbi]
  have hrx : rb ≠ bx := by omega
  have hwx : w.heap.size ≤ bx := by have := B1.size; omega
  have NE := hid (show bx ≠ bf ∧ bx ≠ bt ∧ bx ≠ bi by omega)
  clear b2 hsz hr1 hbi hbf hbt hbx A1 B1
  go_wp2_with fail
  have hsz2 := B2.size
  refine wp_range_all (gf := 160) rfl steps1_enters encS (fun x => rfl) (Sp i a b bf bx bt bi x (WI w rb)) (SpY i a b bf bx bt bi x (WI w rb))
    (fun l pre v a' W => SpY i a b bf bx bt bi x (WI w rb) pre v W ∧ a' = { tmps := #[.int .i64 (i : Int), .int .i64 (a : Int), .int .i64 (b : Int), .string ⟨x.toArray⟩, undef, undef, undef, undef, .pointer (some ⟨rb, 0, none⟩), .string ⟨v.toArray⟩, .int .i64 (i : Int), .bool false, .bool false, .int .i64 (i : Int), .bool false, .bool false, .bool false, .int .i64 (a : Int), .bool false, .bool false, .bool false, .int .i64 (a : Int), .int .i64 (b : Int), .bool false, .bool false, .bool false, .int .i64 (b : Int), .bool false, .bool false, .int .i64 (i : Int), .int .i64 (a : Int), .int .i64 (b : Int), .string ⟨x.toArray⟩, .func (.func 160) #[] #[.pointer (some ⟨bf, 0, none⟩), .pointer (some ⟨bx, 0, none⟩), .pointer (some ⟨bt, 0, none⟩), .pointer (some ⟨bi, 0, none⟩)], .string ⟨v.toArray⟩, undef, undef], defers := [] })
    (fun xs => xs.length = b - a + 1) ?_ ?_ ?_ ?_ ?assign ?body ?done
  · intro pre W l o o' hl ho hc h
    exact ⟨h.len, h.last, h.box.bears ho hc, h.own.bears (Nat.le_trans hsz2 hl) ho hc⟩
  · rintro l0 pre v a' W l o o' hl ho hc ⟨h, rfl⟩
    exact ⟨⟨h.len, h.val, h.box.bears ho hc, h.own.bears (Nat.le_trans hsz2 hl) ho hc⟩, rfl⟩
  · intro o1 o2
    have hb : Below w2.heap.size w2 ((w2.alloc o1).alloc o2) := ((Below.refl _ _).alloc (Nat.le_refl _) _).alloc (by simp) _
    exact ⟨by simp, fun h => absurd rfl h, sb.keep hb, ⟨⟨_, A2.keep hb, fun h => absurd rfl h⟩, below_all B2 hb⟩⟩
  · intro l D r W1 hD hl hL hJ hy
    refine steps1_iter l D r i a b bf bx bt bi hi hab hb x hx NE.out (WI w rb) ?_ hy W1 hL hJ
    rintro pre A B ⟨⟨v, h1, h2⟩, h3⟩ hg
    exact ⟨⟨v, h1.kept hg hrx, h2⟩, h3.grown hg h3.size (fun k e => by cases e; exact hwx)⟩
  case assign =>
    intro l pre v W K hjy hK
    have e : (#[34].zip (encS v)).foldl (fun t (p, v) => t.setIfInBounds p v) (#[.int .i64 (i : Int), .int .i64 (a : Int), .int .i64 (b : Int), .string ⟨x.toArray⟩, undef, undef, undef, undef, .pointer (some ⟨rb, 0, none⟩), undef, .int .i64 (i : Int), .bool false, .bool false, .int .i64 (i : Int), .bool false, .bool false, .bool false, .int .i64 (a : Int), .bool false, .bool false, .bool false, .int .i64 (a : Int), .int .i64 (b : Int), .bool false, .bool false, .bool false, .int .i64 (b : Int), .bool false, .bool false, .int .i64 (i : Int), .int .i64 (a : Int), .int .i64 (b : Int), .string ⟨x.toArray⟩, .func (.func 160) #[] #[.pointer (some ⟨bf, 0, none⟩), .pointer (some ⟨bx, 0, none⟩), .pointer (some ⟨bt, 0, none⟩), .pointer (some ⟨bi, 0, none⟩)], undef, undef, undef] : Array Value) = #[.int .i64 (i : Int), .int .i64 (a : Int), .int .i64 (b : Int), .string ⟨x.toArray⟩, undef, undef, undef, undef, .pointer (some ⟨rb, 0, none⟩), undef, .int .i64 (i : Int), .bool false, .bool false, .int .i64 (i : Int), .bool false, .bool false, .bool false, .int .i64 (a : Int), .bool false, .bool false, .bool false, .int .i64 (a : Int), .int .i64 (b : Int), .bool false, .bool false, .bool false, .int .i64 (b : Int), .bool false, .bool false, .int .i64 (i : Int), .int .i64 (a : Int), .int .i64 (b : Int), .string ⟨x.toArray⟩, .func (.func 160) #[] #[.pointer (some ⟨bf, 0, none⟩), .pointer (some ⟨bx, 0, none⟩), .pointer (some ⟨bt, 0, none⟩), .pointer (some ⟨bi, 0, none⟩)], .string ⟨v.toArray⟩, undef, undef] := by simp [encS]
    rw [e]
    gi_wp2
    exact hK _ _ (KeepsOthers.refl _) ⟨hjy, rfl⟩
  case body =>
    rintro l pre v a' W ⟨h, rfl⟩
    obtain ⟨⟨v0, h1, h2⟩, h3⟩ := h.own
    have cr := h1.cell 0 _ rfl
    have fr := h1.free 0
    have lr := h1.lt
    have H := hid h
    have H1 := hid h1
    have H3 := hid h3
    have HRX := hid hrx
    clear h h1 h2 h3 hrx
    gi_wp2
    have e2 : (pre ++ [v]).length = pre.length + 1 := by simp
    have hbx := H.out.box
    refine ⟨KeepsOthers.setCell _ _ _, by rw [e2]; have := H.out.len; omega, fun _ => by rw [e2, H.out.val]; simp, ?_, ⟨⟨_, H1.out.set 0 _, fun _ => ⟨v, by simp, rfl⟩⟩, H3.out.setCell (p := ⟨rb, 0, none⟩) HR.out _⟩⟩
    rw [e2, Nat.add_sub_cancel]
    have hrb : ∀ m T ys, arr W m T ys → T ≠ 9 → rb ≠ m := by
      rintro m T ys hm hT rfl
      have h1 := H1.out
      unfold arr at hm h1
      rw [h1] at hm
      simp only [Option.some.injEq, Obj.cells.injEq] at hm
      exact hT hm.2.1.symm
    exact ⟨hbx.f.other _ (hrb _ _ _ hbx.f (by decide)) _, hbx.x.other _ HRX.out _, hbx.t.other _ (hrb _ _ _ hbx.t (by decide)) _, hbx.n.other _ (hrb _ _ _ hbx.n (by decide)) _⟩
  case done =>
    rintro D xs W hD hxs hJ hdf
    obtain ⟨⟨v0, h1, h2⟩, h3⟩ := hJ.own
    have hne : xs ≠ [] := by rintro rfl; simp at hxs
    obtain ⟨y, hy1, rfl⟩ := h2 hne
    have hy2 := hJ.last hne
    rw [hy1] at hy2
    have hy3 : y = wlk i a b x := by
      have := Option.some.inj hy2
      rw [this, hxs, Nat.add_sub_cancel]; rfl
    subst hy3
    have cr := h1.cell 0 _ rfl
    have fr := h1.free 0
    have lr := h1.lt
    have H1 := hid h1
    have H3 := hid h3
    have HDF := hid hdf
    have HDD := hid (Nat.le_trans hsz2 hD)
    clear h1 h2 h3 hJ hdf hD hy1 hy2 hne hxs
    go_wp2
    have a3 := H1.out.set 0 (.string ⟨(wlk i a b x).toArray⟩)
    have d3 := (KeepsOthers.setCell W ⟨rb, 0, none⟩ (.string ⟨(wlk i a b x).toArray⟩)).same _ _ HDF.out rfl
    have b3 := H3.out.setCell (p := ⟨rb, 0, none⟩) HR.out (.string ⟨(wlk i a b x).toArray⟩)
    refine marks_ret rfl d3 (results_cell1 rfl _ _ _ _ rfl (load_plain (arr_bears d3 rfl a3) Try.underlying9 rfl)) ⟨rfl, below_put b3 _ _ HDD.out b3.size⟩
end Go.Proofs.Ytcfohdkdppiekaa
