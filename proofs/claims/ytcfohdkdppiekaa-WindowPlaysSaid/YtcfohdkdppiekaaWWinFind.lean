/- window's Find: contract. -/
import Derived.Test.YtcfohdkdppiekaaWWinRange
namespace Go.Proofs.Ytcfohdkdppiekaa
open Go Go.RowKit Go.Proofs
attribute [local go_sem] Oper.semAt_some
def b2e (b : Bool) : Nat := if b then 16 else 19
/-- the round's box, the results' boxes -/
structure FB (w : World) (q : Nat) (n m4 m5 m6 m7 : Nat) (v4 v5 v6 v7 : Value) (W : World) : Prop where
  b3 : arr W n 32 [.int .u64 (q : Int)]
  b4 : arr W m4 32 [v4]
  b5 : arr W m5 32 [v5]
  b6 : arr W m6 9 [v6]
  b7 : arr W m7 57 [v7]
  below : Below w.heap.size w W
section
variable {w W W' : World} {q n m4 m5 m6 m7 l : Nat} {v4 v5 v6 v7 v : Value}
theorem FB.keep (h : FB w q n m4 m5 m6 m7 v4 v5 v6 v7 W) (hb : Below W.heap.size W W') : FB w q n m4 m5 m6 m7 v4 v5 v6 v7 W' :=
  ⟨h.b3.keep hb, h.b4.keep hb, h.b5.keep hb, h.b6.keep hb, h.b7.keep hb, below_all h.below hb⟩
theorem FB.bears {o o' : Obj} (h : FB w q n m4 m5 m6 m7 v4 v5 v6 v7 W) (hl : w.heap.size ≤ l) (ho : W.heap[l]? = some o) (hc : o.isCells = false) : FB w q n m4 m5 m6 m7 v4 v5 v6 v7 (W.putObj l o') :=
  ⟨arr_bears ho hc h.b3, arr_bears ho hc h.b4, arr_bears ho hc h.b5, arr_bears ho hc h.b6, arr_bears ho hc h.b7, below_put h.below _ _ hl h.below.size⟩
structure FN (w : World) (n m4 m5 m6 m7 : Nat) : Prop where
  n0 : n = w.heap.size
  n4 : m4 = w.heap.size + 1
  n5 : m5 = w.heap.size + 1 + 1
  n6 : m6 = w.heap.size + 1 + 1 + 1
  n7 : m7 = w.heap.size + 1 + 1 + 1 + 1
variable (hn : FN w n m4 m5 m6 m7)
include hn
theorem FB.s4 (h : FB w q n m4 m5 m6 m7 v4 v5 v6 v7 W) (v : Value) : FB w q n m4 m5 m6 m7 v v5 v6 v7 (W.setCell ⟨m4, 0, none⟩ v) := by
  obtain ⟨a, b, c, d, e⟩ := hn
  exact ⟨h.b3.other _ (by simp; omega) _, h.b4.set 0 v, h.b5.other _ (by simp; omega) _, h.b6.other _ (by simp; omega) _, h.b7.other _ (by simp; omega) _, h.below.setCell (p := ⟨m4, 0, none⟩) (by simp; omega) _⟩
theorem FB.s5 (h : FB w q n m4 m5 m6 m7 v4 v5 v6 v7 W) (v : Value) : FB w q n m4 m5 m6 m7 v4 v v6 v7 (W.setCell ⟨m5, 0, none⟩ v) := by
  obtain ⟨a, b, c, d, e⟩ := hn
  exact ⟨h.b3.other _ (by simp; omega) _, h.b4.other _ (by simp; omega) _, h.b5.set 0 v, h.b6.other _ (by simp; omega) _, h.b7.other _ (by simp; omega) _, h.below.setCell (p := ⟨m5, 0, none⟩) (by simp; omega) _⟩
theorem FB.s6 (h : FB w q n m4 m5 m6 m7 v4 v5 v6 v7 W) (v : Value) : FB w q n m4 m5 m6 m7 v4 v5 v v7 (W.setCell ⟨m6, 0, none⟩ v) := by
  obtain ⟨a, b, c, d, e⟩ := hn
  exact ⟨h.b3.other _ (by simp; omega) _, h.b4.other _ (by simp; omega) _, h.b5.other _ (by simp; omega) _, h.b6.set 0 v, h.b7.other _ (by simp; omega) _, h.below.setCell (p := ⟨m6, 0, none⟩) (by simp; omega) _⟩
theorem FB.s7 (h : FB w q n m4 m5 m6 m7 v4 v5 v6 v7 W) (v : Value) : FB w q n m4 m5 m6 m7 v4 v5 v6 v (W.setCell ⟨m7, 0, none⟩ v) := by
  obtain ⟨a, b, c, d, e⟩ := hn
  exact ⟨h.b3.other _ (by simp; omega) _, h.b4.other _ (by simp; omega) _, h.b5.other _ (by simp; omega) _, h.b6.other _ (by simp; omega) _, h.b7.set 0 v, h.below.setCell (p := ⟨m7, 0, none⟩) (by simp; omega) _⟩
end
theorem find_boxes (w : World) (q : Nat) : FB w q w.heap.size (w.heap.size + 1) (w.heap.size + 1 + 1) (w.heap.size + 1 + 1 + 1) (w.heap.size + 1 + 1 + 1 + 1) (.int .u64 0) (.int .u64 0) (.string ByteArray.empty) (.int .i64 19)
    (((((w.alloc (.cells #[.int .u64 (q : Int)] 32)).alloc (.cells #[.int .u64 0] 32)).alloc (.cells #[.int .u64 0] 32)).alloc (.cells #[.string ByteArray.empty] 9)).alloc (.cells #[.int .i64 19] 57)) :=
  ⟨((((arr.new w _ [_]).alloc _).alloc _).alloc _).alloc _, (((arr.newAt (w.alloc _) _ [_] _ (by simp)).alloc _).alloc _).alloc _, ((arr.newAt ((w.alloc _).alloc _) _ [_] _ (by simp)).alloc _).alloc _,
    (arr.newAt (((w.alloc _).alloc _).alloc _) _ [_] _ (by simp)).alloc _, arr.newAt ((((w.alloc _).alloc _).alloc _).alloc _) _ [_] _ (by simp),
    (((((Below.refl _ _).alloc (Nat.le_refl _) _).alloc (by simp) _).alloc (by simp; omega) _).alloc (by simp; omega) _).alloc (by simp; omega) _⟩
/-- what Find answers -/
def finV (L : List Iv) (q : Nat) : Value := match fin L q with
  | some x => .tuple #[.int .u64 (x.1 : Int), .int .u64 (x.2.1 : Int), .string ⟨x.2.2.toArray⟩, .int .i64 0]
  | none => .tuple #[.int .u64 0, .int .u64 0, .string ByteArray.empty, .int .i64 (finE L q : Nat)]
theorem fin_at_first {L pre : List Iv} {q : Nat} {x : Iv} (he : pre = L.take pre.length) (h1 : fin pre q = none) (hx : L[pre.length]? = some x) (hh : hasR q x = true) : fin L q = some x := by
  have hlt := (List.getElem?_eq_some_iff.1 hx).1
  have e2 : L.drop pre.length = x :: L.drop (pre.length + 1) := by
    rw [List.drop_eq_getElem_cons hlt]
    congr 1
    have := List.getElem?_eq_getElem hlt
    rw [hx] at this
    exact (Option.some.inj this).symm
  unfold fin at *
  rw [← List.take_append_drop pre.length L, List.find?_append, ← he, h1, e2, List.find?_cons, hh]
  rfl
theorem fin_next {pre : List Iv} {q : Nat} {x : Iv} (h1 : fin pre q = none) (hh : hasR q x = false) : fin (pre ++ [x]) q = none := by
  unfold fin at *
  rw [List.find?_append, h1, List.find?_cons, hh]
  rfl
theorem pre_next {L pre : List Iv} {x : Iv} (he : pre = L.take pre.length) (hx : L[pre.length]? = some x) : pre ++ [x] = L.take (pre ++ [x]).length ∧ (pre ++ [x]).length ≤ L.length := by
  have hlt := (List.getElem?_eq_some_iff.1 hx).1
  have e1 : (pre ++ [x]).length = pre.length + 1 := by simp
  rw [e1]
  refine ⟨?_, hlt⟩
  rw [List.take_succ_eq_append_getElem hlt, ← he]
  have := List.getElem?_eq_getElem hlt
  rw [hx] at this
  rw [Option.some.inj this]
theorem isW.set {g most b : Nat} {L : List Iv} {W : World} (h : isW W g most L) (hne : b ≠ g) (o : Nat) (v : Value) : isW (W.setCell ⟨b, o, none⟩ v) g most L := by
  obtain ⟨cs, p, h1, h2, h3, h4, h5, h6⟩ := h
  exact ⟨cs, p, h1, h2, h3, h4, h5, h6.other _ hne _⟩
theorem isW.lt {g most : Nat} {L : List Iv} {W : World} (h : isW W g most L) : g < W.heap.size := by
  obtain ⟨cs, p, h1, h2, h3, h4, h5, h6⟩ := h
  exact h6.lt
theorem results_cells4 {P : Program} {fn : Func} {a b c d : Tmp} {ta tb tc td : TypeId} (h : fn.results = #[.cell a ta, .cell b tb, .cell c tc, .cell d td]) (tmps : Array Value) (w : World) (pa pb pc pd : Addr) (va vb vc vd : Value)
    (h1 : tmps.getD a undef = .pointer (some pa)) (h2 : tmps.getD b undef = .pointer (some pb)) (h3 : tmps.getD c undef = .pointer (some pc)) (h4 : tmps.getD d undef = .pointer (some pd))
    (k1 : (loadVar ta pa).run P w = .ok va w) (k2 : (loadVar tb pb).run P w = .ok vb w) (k3 : (loadVar tc pc).run P w = .ok vc w) (k4 : (loadVar td pd).run P w = .ok vd w) :
    (results fn tmps).run P w = .ok (.tuple #[va, vb, vc, vd]) w := by
  rw [Array.getD_eq_getD_getElem?] at h1 h2 h3 h4
  simp [results, h, h1, h2, h3, h4, k1, k2, k3, k4, Sem.run_bind, asAddr]
theorem load_one {w : World} {b : Nat} {T ty : TypeId} {v : Value} {d : TypeDesc} (h : arr w b T [v]) (hu : Try.prog.underlying ty = some d) (hd : (match d with | .struct _ | .array _ _ => true | _ => false) = false) : (loadVar ty ⟨b, 0, none⟩).run Try.prog w = .ok v w := by
  have c := h.cell 0 _ rfl
  have hagg : (isAgg ty).run Try.prog w = .ok false w := by
    unfold isAgg
    rw [Sem.run_bind, run_underlying hu w]
    cases d <;> simp_all
  simp [loadVar, Sem.run_bind, hagg]
  go_simp
theorem find_ret {w W : World} {q n m4 m5 m6 m7 D : Nat} {v4 v5 v6 v7 : Value} {a : Act} (h : FB w q n m4 m5 m6 m7 v4 v5 v6 v7 W) (hD : w.heap.size ≤ D) (hd : a.defers = [{ target := .collected D, args := #[] }]) (hk : W.heap[D]? = some (.deferred (some [])))
    (h4 : a.tmps.getD 4 undef = .pointer (some ⟨m4, 0, none⟩)) (h5 : a.tmps.getD 5 undef = .pointer (some ⟨m5, 0, none⟩)) (h6 : a.tmps.getD 6 undef = .pointer (some ⟨m6, 0, none⟩)) (h7 : a.tmps.getD 7 undef = .pointer (some ⟨m7, 0, none⟩)) :
    Marked Try.prog Try.f57 (fun e w' => e = .returned (.tuple #[v4, v5, v6, v7]) ∧ Below w.heap.size w w') .ret a W := by
  have hb := h.bears (o' := .deferred none) hD hk rfl
  exact marks_ret hd hk (results_cells4 rfl _ _ _ _ _ _ _ _ _ _ h4 h5 h6 h7 (load_one hb.b4 Try.underlying32 rfl) (load_one hb.b5 Try.underlying32 rfl) (load_one hb.b6 Try.underlying9 rfl) (load_one hb.b7 Try.underlying57 rfl)) ⟨rfl, hb.below⟩
set_option maxRecDepth 100000 in
set_option maxHeartbeats 2000000 in
theorem find_any (g most : Nat) (L : List Iv) (q : Nat) (w : World) (h : isW w g most L) :
    Calls Try.prog 57 #[.pointer (some ⟨g, 0, none⟩), .int .u64 (q : Int)] w fun e w' => e = .returned (finV L q) ∧ Below w.heap.size w w' := by
  have H := hid h
  clear h
  refine calls_of_marks Try.func57 rfl ?_
  simp only [Try.ntmps57, List.size_toArray, List.length_cons, List.length_nil, Nat.reduceAdd, Nat.reduceSub, Array.replicate_succ, Array.replicate_zero, List.push_toArray, List.append_toArray, List.nil_append, List.cons_append]
  go_wp2_with fail
  obtain ⟨m7, h7⟩ : ∃ m, m = w.heap.size + 1 + 1 + 1 + 1 := ⟨_, rfl⟩
  obtain ⟨m6, h6⟩ : ∃ m, m = w.heap.size + 1 + 1 + 1 := ⟨_, rfl⟩
  obtain ⟨m5, h5⟩ : ∃ m, m = w.heap.size + 1 + 1 := ⟨_, rfl⟩
  obtain ⟨m4, h4⟩ : ∃ m, m = w.heap.size + 1 := ⟨_, rfl⟩
  obtain ⟨n, h3⟩ : ∃ n, n = w.heap.size := ⟨_, rfl⟩
  have F0 := find_boxes w q
  obtain ⟨W0, hW0⟩ : ∃ W0, W0 = (((((w.alloc (.cells #[.int .u64 (q : Int)] 32)).alloc (.cells #[.int .u64 0] 32)).alloc (.cells #[.int .u64 0] 32)).alloc (.cells #[.string ByteArray.empty] 9)).alloc (.cells #[.int .i64 19] 57)) := ⟨_, rfl⟩
  rw [← hW0] at F0
  rw [← h7, ← h6, ← h5, ← h4, ← h3] at F0
  rw [show (⟨#[]⟩ : ByteArray) = ByteArray.empty from rfl]
  rw [← hW0]
  rw [← h7, ← h6, ← h5, ← h4, ← h3]
  have HN := hid (FN.mk h3 h4 h5 h6 h7)
  clear h3 h4 h5 h6 h7 hW0
  have H0 := H.out.keep (F0.below)
  refine (all_any g W0).mono ?_
  rintro e w1 ⟨rfl, ab, hb⟩
  have HM7 := hid F0.b7.lt
  have HG := hid H.out.lt
  have F1 := F0.keep hb
  have H1 := H0.keep hb
  clear F0 H0 hb
  go_wp2_with fail
  have hsz := F1.below.size
  have hlow : ∀ pre W, (fin pre q = none ∧ FB w q n m4 m5 m6 m7 (.int .u64 0) (.int .u64 0) (.string ByteArray.empty) (.int .i64 (b2e (pre.any fun x => decide (q < x.1)) : Nat)) W) → w.heap.size ≤ W.heap.size := fun _ _ h => h.2.below.size
  refine range_win g most L W0.heap.size rfl H1 ab (fun pre W => (fin pre q = none ∧ FB w q n m4 m5 m6 m7 (.int .u64 0) (.int .u64 0) (.string ByteArray.empty) (.int .i64 (b2e (pre.any fun x => decide (q < x.1)) : Nat)) W) ∧ w1.heap.size ≤ W.heap.size)
    (fun c pre W => c = .ret ∧ ∃ x, fin L q = some x ∧ FB w q n m4 m5 m6 m7 (.int .u64 (x.1 : Int)) (.int .u64 (x.2.1 : Int)) (.string ⟨x.2.2.toArray⟩) (.int .i64 0) W)
    (fun x bx => { tmps := #[.pointer (some ⟨g, 0, none⟩), .int .u64 (q : Int), undef, .pointer (some ⟨n, 0, none⟩), .pointer (some ⟨m4, 0, none⟩), .pointer (some ⟨m5, 0, none⟩), .pointer (some ⟨m6, 0, none⟩), .pointer (some ⟨m7, 0, none⟩), .pointer (some ⟨bx, 0, none⟩), .pointer (some ⟨g, 0, none⟩), .bool false, .pointer (some ⟨g, 0, none⟩),
      .func (.func 155) #[] #[.pointer (some ⟨W0.heap.size, 0, none⟩)], .agg (ivCells x).toArray, undef, undef, undef, undef, undef, undef, undef, undef, undef, undef, undef, undef, undef, undef, undef, undef, undef, undef, undef, undef], defers := [] }) ?_ ?_ ?_ ⟨⟨rfl, F1⟩, Nat.le_refl _⟩ (fun _ _ h => h.2) ?assign ?body ?done ?stop
  · rintro pre A B ⟨⟨h1, h2⟩, h3⟩ hb
    exact ⟨⟨h1, h2.keep hb⟩, Nat.le_trans h3 hb.size⟩
  · rintro pre W l o o' hl ho hc ⟨⟨h1, h2⟩, h3⟩
    exact ⟨⟨h1, h2.bears (Nat.le_trans hsz hl) ho hc⟩, by simpa using h3⟩
  · rintro c pre W l o o' hl ho hc ⟨rfl, x, hx, h2⟩
    exact ⟨rfl, x, hx, h2.bears (Nat.le_trans hsz hl) ho hc⟩
  case assign =>
    intro l x W K hK
    unfold ivCells
    gi_wp2
    exact hK _ ((Below.refl _ _).alloc (Nat.le_refl _) _) (arr.new W _ _)
  case body =>
    intro l pre x bx W hal hx hbx hlt
    obtain ⟨⟨hnone, hf⟩, hs⟩ := hal.own
    have x0 := hbx.cell 0 _ rfl
    have x1 := hbx.cell 1 _ rfl
    have x2 := hbx.cell 2 _ rfl
    have lx := hbx.lt
    have y3 := hf.b3.cell 0 _ rfl
    have l3 := hf.b3.lt
    have HF := hid hf
    have HAL := hid hal
    have PE := hid hal.eq
    have HBX := hid hbx
    have HS := hid hs
    have HNO := hid hnone
    clear hal hf hbx hs hnone hlow
    by_cases hh : hasR q x = true
    · have q0 := has_any x.1 x.2.1 q W
      rw [show (decide (x.1 ≤ q) && decide (q ≤ x.2.1)) = true from hh] at q0
      have Q0 := hid q0
      clear q0
      gi_wp2_with fail
      refine ⟨trivial, rfl, CallsIn.inRound l ((callsIn_wide.2 Q0.out).mono ?_)⟩
      rintro e W2 ⟨rfl, hb2⟩
      have F2 := (HF.out.keep hb2).keep (Below.refl _ _).drew
      have X2 := (HBX.out.keep hb2).drew
      have hbx7 : m7 < bx := by have := F1.b7.lt; omega
      have K2 := keeps_below hb2
      have hne : m4 ≠ bx ∧ m5 ≠ bx ∧ m6 ≠ bx := by
        obtain ⟨e0, e4, e5, e6, e7⟩ := HN.out
        omega
      have NE := hid hne
      clear hne hbx7
      clear hb2 Q0 x0 x1 x2 lx y3 l3 HF HBX HAL
      gi_wp2_with fail
      refine wpIn_region_sched (some l) (fun W' => arr W' bx 153 (ivCells x)) [(true, 0), (true, 1), (true, 2), (true, 3), (true, 4), (true, 5), (true, 6), (true, 7), (false, 8), (false, 9), (false, 10)] 11 rfl (by kernel_rfl) (by kernel_rfl) (by kernel_rfl) (by decide) rfl (by kernel_rfl) (by kernel_rfl) X2 ?_
      obtain ⟨W3, hW3⟩ : ∃ W3, W3 = W2.drew := ⟨_, rfl⟩
      rw [← hW3] at F2 X2 ⊢
      have hk3 : KeepsOthers W2 W3 := by rw [hW3]; exact keeps_below (Below.refl _ _).drew
      clear hW3
      have K3 := K2.trans hk3
      have c4 := F2.b4.cell 0 _ rfl
      have f4 := F2.b4.free 0
      have l4 := F2.b4.lt
      clear K2 hk3
      refine sq_soft rfl (by kernel_rfl) (fun W hW => (by have x0 := hW.cell 0 _ rfl; have x1 := hW.cell 1 _ rfl; have x2 := hW.cell 2 _ rfl; have lx := hW.lt; clear hW; go_simp; try rfl)) ?_; go_frame
      refine sq_soft rfl (by kernel_rfl) (fun W hW => (by have x0 := hW.cell 0 _ rfl; have x1 := hW.cell 1 _ rfl; have x2 := hW.cell 2 _ rfl; have lx := hW.lt; clear hW; go_simp; try rfl)) ?_; go_frame
      refine sq_soft rfl (by kernel_rfl) (fun W hW => (by have x0 := hW.cell 0 _ rfl; have x1 := hW.cell 1 _ rfl; have x2 := hW.cell 2 _ rfl; have lx := hW.lt; clear hW; go_simp; try rfl)) ?_; go_frame
      refine sq_soft rfl (by kernel_rfl) (fun W hW => (by have x0 := hW.cell 0 _ rfl; have x1 := hW.cell 1 _ rfl; have x2 := hW.cell 2 _ rfl; have lx := hW.lt; clear hW; go_simp; try rfl)) ?_; go_frame
      refine sq_soft rfl (by kernel_rfl) (fun W hW => (by have x0 := hW.cell 0 _ rfl; have x1 := hW.cell 1 _ rfl; have x2 := hW.cell 2 _ rfl; have lx := hW.lt; clear hW; go_simp; try rfl)) ?_; go_frame
      refine sq_soft rfl (by kernel_rfl) (fun W hW => (by have x0 := hW.cell 0 _ rfl; have x1 := hW.cell 1 _ rfl; have x2 := hW.cell 2 _ rfl; have lx := hW.lt; clear hW; go_simp; try rfl)) ?_; go_frame
      refine sq_soft rfl (by kernel_rfl) (fun W hW => (by have x0 := hW.cell 0 _ rfl; have x1 := hW.cell 1 _ rfl; have x2 := hW.cell 2 _ rfl; have lx := hW.lt; clear hW; go_simp; try rfl)) ?_; go_frame
      refine sq_soft rfl (by kernel_rfl) (fun W hW => (by have x0 := hW.cell 0 _ rfl; have x1 := hW.cell 1 _ rfl; have x2 := hW.cell 2 _ rfl; have lx := hW.lt; clear hW; go_simp; try rfl)) ?_; go_frame
      refine sq_op rfl (by kernel_rfl) ?_
      go_simp
      have F4 := F2.s4 HN.out (.int .u64 (x.1 : Int))
      have X4 := X2.other ⟨m4, 0, none⟩ (NE.out.1) (.int .u64 (x.1 : Int))
      refine ⟨X4, ?_⟩
      have KF4 := K3.trans (KeepsOthers.setCell W3 ⟨m4, 0, none⟩ (.int .u64 (x.1 : Int)))
      generalize World.setCell W3 ⟨m4, 0, none⟩ (.int .u64 (x.1 : Int)) = W4 at F4 X4 KF4 ⊢
      have c5 := F4.b5.cell 0 _ rfl
      have f5 := F4.b5.free 0
      have l5 := F4.b5.lt
      try go_frame
      refine sq_op rfl (by kernel_rfl) ?_
      go_simp
      have F5 := F4.s5 HN.out (.int .u64 (x.2.1 : Int))
      have X5 := X4.other ⟨m5, 0, none⟩ (NE.out.2.1) (.int .u64 (x.2.1 : Int))
      refine ⟨X5, ?_⟩
      have KF5 := KF4.trans (KeepsOthers.setCell W4 ⟨m5, 0, none⟩ (.int .u64 (x.2.1 : Int)))
      generalize World.setCell W4 ⟨m5, 0, none⟩ (.int .u64 (x.2.1 : Int)) = W5 at F5 X5 KF5 ⊢
      have c6 := F5.b6.cell 0 _ rfl
      have f6 := F5.b6.free 0
      have l6 := F5.b6.lt
      try go_frame
      refine sq_op rfl (by kernel_rfl) ?_
      go_simp
      have F6 := F5.s6 HN.out (.string ⟨x.2.2.toArray⟩)
      have X6 := X5.other ⟨m6, 0, none⟩ (NE.out.2.2) (.string ⟨x.2.2.toArray⟩)
      refine ⟨X6, ?_⟩
      have KF6 := KF5.trans (KeepsOthers.setCell W5 ⟨m6, 0, none⟩ (.string ⟨x.2.2.toArray⟩))
      generalize World.setCell W5 ⟨m6, 0, none⟩ (.string ⟨x.2.2.toArray⟩) = W6 at F6 X6 KF6 ⊢
      have c7 := F6.b7.cell 0 _ rfl
      have f7 := F6.b7.free 0
      have l7 := F6.b7.lt
      try go_frame
      refine sched_done ?_
      gi_wp2
      refine ⟨KF6.trans (KeepsOthers.setCell W6 _ _), rfl, x, fin_at_first PE.out HNO.out hx hh, F6.s7 HN.out _⟩
    · have hh' : hasR q x = false := by simpa using hh
      have q0 := has_any x.1 x.2.1 q W
      rw [show (decide (x.1 ≤ q) && decide (q ≤ x.2.1)) = false from hh'] at q0
      have Q0 := hid q0
      clear q0
      gi_wp2_with fail
      refine ⟨trivial, rfl, CallsIn.inRound l ((callsIn_wide.2 Q0.out).mono ?_)⟩
      rintro e W2 ⟨rfl, hb2⟩
      have F2 := HF.out.keep hb2
      have X2 := HBX.out.keep hb2
      have W2W := hid (HAL.out.win.keep hb2)
      have W2B := hid (HAL.out.box.keep hb2)
      have K2 := hid (keeps_below hb2)
      have x0 := X2.cell 0 _ rfl
      have lx := X2.lt
      have y3 := F2.b3.cell 0 _ rfl
      have l3 := F2.b3.lt
      have c7 := F2.b7.cell 0 _ rfl
      have f7 := F2.b7.free 0
      have l7 := F2.b7.lt
      have FF := hid F2
      have hsz2 := hid (Nat.le_trans HS.out hb2.size)
      have hg7 : m7 ≠ g := by
        obtain ⟨e0, e4, e5, e6, e7⟩ := HN.out
        have := HG.out
        omega
      have hp7 : m7 ≠ W0.heap.size := by have := HM7.out; omega
      have HG7 := hid hg7
      have HP7 := hid hp7
      clear hg7 hp7
      clear hb2 Q0 X2 F2 HF HBX
      by_cases hq : q < x.1
      · have hq' : (q : Int) < (x.1 : Int) := by omega
        gi_wp2
        refine ⟨K2.out.trans (KeepsOthers.setCell W2 _ _), (pre_next PE.out hx).1, (pre_next PE.out hx).2, W2W.out.set HG7.out _ _, W2B.out.other _ HP7.out _, ⟨fin_next HNO.out hh', ?_⟩, by simpa using hsz2.out⟩
        have h9 := FF.out.s7 HN.out (.int .i64 16)
        have e : (b2e ((pre ++ [x]).any fun x => decide (q < x.1)) : Nat) = 16 := by simp [b2e, hq]
        rw [e]; exact h9
      · have hq' : ¬ (q : Int) < (x.1 : Int) := by omega
        gi_wp2
        refine ⟨K2.out, (pre_next PE.out hx).1, (pre_next PE.out hx).2, W2W.out, W2B.out, ⟨fin_next HNO.out hh', ?_⟩, hsz2.out⟩
        have e : ((pre ++ [x]).any fun x => decide (q < x.1)) = pre.any fun x => decide (q < x.1) := by simp [hq]
        rw [e]; exact FF.out
  case done =>
    rintro D W hD ⟨⟨hn, hf⟩, hs⟩ hW hdf
    obtain ⟨c, hc⟩ : ∃ c : Nat, c = b2e (L.any fun x => decide (q < x.1)) := ⟨_, rfl⟩
    rw [← hc] at hf
    have hfv : finV L q = .tuple #[.int .u64 0, .int .u64 0, .string ByteArray.empty, .int .i64 (c : Int)] := by
      unfold finV finE
      rw [hn]
      simp only
      rw [hc]
      rfl
    have HV := hid hfv
    have hdD : w.heap.size ≤ D := Nat.le_trans hsz hD
    have HDF := hid hdf
    have HD' := hid hdD
    clear hn hs hW hc hlow hfv hdf hD hdD
    go_wp2_with fail
    refine wp_region_sq (fun W' => arr W' m7 57 [.int .i64 (c : Int)]) [(true, 0), (false, 1), (false, 2), (false, 3)] 4 rfl (by kernel_rfl) (by kernel_rfl) (by kernel_rfl) (by decide) rfl (by kernel_rfl) hf.b7.drew ?_
    have F3 := hf.keep (Below.refl _ _).drew
    obtain ⟨W3, hW3⟩ : ∃ W3, W3 = W.drew := ⟨_, rfl⟩
    rw [← hW3] at F3 ⊢
    have hdf3 : W3.heap[D]? = some (.deferred (some [])) := by rw [hW3]; exact HDF.out
    have HDF3 := hid hdf3
    clear hW3 hdf3 hf HDF
    have c4 := F3.b4.cell 0 _ rfl
    have f4 := F3.b4.free 0
    have l4 := F3.b4.lt
    refine sq_soft rfl (by kernel_rfl) (fun W hW => (by have x0 := hW.cell 0 _ rfl; have lx := hW.lt; clear hW; go_simp; try rfl)) ?_; go_frame
    refine sq_op rfl (by kernel_rfl) ?_
    go_simp
    have F4 := F3.s4 HN.out (.int .u64 0)
    have D4 := hid ((KeepsOthers.setCell W3 ⟨m4, 0, none⟩ (.int .u64 0)).same _ _ HDF3.out rfl)
    refine ⟨F4.b7, ?_⟩
    generalize World.setCell W3 ⟨m4, 0, none⟩ (.int .u64 0) = W4 at F4 D4 ⊢
    have c5 := F4.b5.cell 0 _ rfl
    have f5 := F4.b5.free 0
    have l5 := F4.b5.lt
    try go_frame
    refine sq_op rfl (by kernel_rfl) ?_
    go_simp
    have F5 := F4.s5 HN.out (.int .u64 0)
    have D5 := hid ((KeepsOthers.setCell W4 ⟨m5, 0, none⟩ (.int .u64 0)).same _ _ D4.out rfl)
    refine ⟨F5.b7, ?_⟩
    generalize World.setCell W4 ⟨m5, 0, none⟩ (.int .u64 0) = W5 at F5 D5 ⊢
    have c6 := F5.b6.cell 0 _ rfl
    have f6 := F5.b6.free 0
    have l6 := F5.b6.lt
    try go_frame
    refine sq_op rfl (by kernel_rfl) ?_
    go_simp
    have F6 := F5.s6 HN.out (.string ByteArray.empty)
    have D6 := hid ((KeepsOthers.setCell W5 ⟨m6, 0, none⟩ (.string ByteArray.empty)).same _ _ D5.out rfl)
    rw [show (⟨#[]⟩ : ByteArray) = ByteArray.empty from rfl]
    refine ⟨F6.b7, ?_⟩
    generalize World.setCell W5 ⟨m6, 0, none⟩ (.string ByteArray.empty) = W6 at F6 D6 ⊢
    have c7 := F6.b7.cell 0 _ rfl
    have f7 := F6.b7.free 0
    have l7 := F6.b7.lt
    try go_frame
    refine sched_done ?_
    go_wp2
    have F7 := F6.s7 HN.out (.int .i64 (c : Int))
    have D7 := ((KeepsOthers.setCell W6 ⟨m7, 0, none⟩ (.int .i64 (c : Int))).same _ _ D6.out rfl)
    rw [HV.out]
    exact find_ret F7 HD'.out rfl D7 rfl rfl rfl rfl
  case stop =>
    rintro D c pre W hD ⟨rfl, x, hx, hf⟩ hdf
    have hdD : w.heap.size ≤ D := Nat.le_trans hsz hD
    have hfv : finV L q = .tuple #[.int .u64 (x.1 : Int), .int .u64 (x.2.1 : Int), .string ⟨x.2.2.toArray⟩, .int .i64 0] := by
      unfold finV
      rw [hx]
    gi_wp2
    rw [hfv]
    exact find_ret hf hdD rfl hdf rfl rfl rfl rfl
end Go.Proofs.Ytcfohdkdppiekaa
