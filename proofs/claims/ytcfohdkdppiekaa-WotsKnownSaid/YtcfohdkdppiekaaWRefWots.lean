/- A chain's secret; the reference's calls: contracts. -/
import Derived.Test.YtcfohdkdppiekaaWWots
import Derived.Test.YtcfohdkdppiekaaFree
namespace Go.Proofs.Ytcfohdkdppiekaa
open Go Go.RowKit Go.Proofs
attribute [local go_sem] Oper.semAt_some
section
variable {o : Oper} {a : Act} {w : World} {K : Act → World → Prop} {Q : Exit → Act → World → Prop}
theorem wp_ok {P : Program} {w' : World} {v : Value} (h : (execOp a.eval o).run P w = .ok (.value v) w') (hk : K (a.put o.dst v) w') : o.wp P a w K Q := by
  unfold Oper.wp
  rw [h]
  exact hk
theorem wp_u8 (x : Operand) (ho : o.op = .convert 3 5 x) (i : Nat) (hi : i < 256) (he : a.eval x = .int .i64 (i : Int)) (h : K (a.put o.dst (.int .u8 (i : Int))) w) : o.wp Try.prog a w K Q := by
  have h256 : IntKind.u8.wrap (i : Int) = (i : Int) := by rw [IntKind.wrap_u8]; omega
  refine wp_ok (v := .int .u8 (i : Int)) (w' := w) ?_ h
  unfold execOp
  simp only [ho, he]
  go_simp
  try rfl
theorem wp_slice1 (x : Operand) (ho : o.op = .buildSlice 22 1 #[(0, x)]) (i : Nat) (he : a.eval x = .int .u8 (i : Int))
    (h : K (a.put o.dst (.slice (some ⟨w.heap.size, 0, none⟩) 1 1)) (w.alloc (.cells #[.int .u8 (i : Int)] 5))) : o.wp Try.prog a w K Q := by
  refine wp_ok (v := .slice (some ⟨w.heap.size, 0, none⟩) 1 1) (w' := w.alloc (.cells #[.int .u8 (i : Int)] 5)) ?_ h
  unfold execOp
  simp only [ho, he, List.map_toArray, List.map_cons, List.map_nil]
  go_simp
  try rfl
theorem wp_slice3 (x y z : Operand) (ho : o.op = .buildSlice 26 3 #[(0, x), (1, y), (2, z)]) (p q r : List UInt8) (h1 : a.eval x = .string ⟨p.toArray⟩) (h2 : a.eval y = .string ⟨q.toArray⟩) (h3 : a.eval z = .string ⟨r.toArray⟩)
    (h : K (a.put o.dst (.slice (some ⟨w.heap.size, 0, none⟩) 3 3)) (w.alloc (.cells #[.string ⟨p.toArray⟩, .string ⟨q.toArray⟩, .string ⟨r.toArray⟩] 9))) : o.wp Try.prog a w K Q := by
  refine wp_ok (v := .slice (some ⟨w.heap.size, 0, none⟩) 3 3) (w' := w.alloc (.cells #[.string ⟨p.toArray⟩, .string ⟨q.toArray⟩, .string ⟨r.toArray⟩] 9)) ?_ h
  unfold execOp
  simp only [ho, h1, h2, h3, List.map_toArray, List.map_cons, List.map_nil]
  go_simp
  try rfl
theorem wp_b2s (x : Operand) (ho : o.op = .convert 22 9 x) (b n : Nat) (l : List UInt8) (he : a.eval x = .slice (some ⟨b, 0, none⟩) n n) (hl : l.length = n)
    (hc : ∀ i, i < l.length → w.cell? ⟨b, 0 + i, none⟩ = some (.int .u8 ((l.getD i 0).toNat : Int))) (h : K (a.put o.dst (.string ⟨l.toArray⟩)) w) : o.wp Try.prog a w K Q := by
  have := b2s_run w b 0 n n l hl (fun i hi => hc i (by omega))
  refine wp_ok (v := .string ⟨l.toArray⟩) (w' := w) ?_ h
  unfold execOp
  simp only [ho, he, Sem.run_bind, this, Result.andThen_ok, Sem.run_pure]
end
def scVal (seed : List UInt8) (index i : Nat) (j : Nat) (v : Value) (W : World) : Prop :=
  match j with
  | 0 => v = .string ⟨seed.toArray⟩
  | 1 => v = .int .u64 (index : Int)
  | 2 => v = .string ⟨(b8 index).toArray⟩
  | 3 => v = .int .i64 (i : Int)
  | 4 => v = .int .u8 (i : Int)
  | 5 => ∃ b, v = .slice (some ⟨b, 0, none⟩) 1 1 ∧ arr W b 5 [.int .u8 (i : Int)]
  | 6 => v = .string ⟨[UInt8.ofNat i].toArray⟩
  | 7 => strsAt W W.heap.size v [seed, b8 index, [UInt8.ofNat i]]
  | 8 | 9 => v = .string ⟨(scr seed index i).toArray⟩
  | _ => True
def scNeed (j : Nat) : List Nat :=
  match j with
  | 2 => [1] | 4 => [3] | 5 => [4] | 6 => [5] | 7 => [0, 2, 6] | 8 => [7] | 9 => [8] | _ => []
set_option maxRecDepth 100000 in
set_option maxHeartbeats 4000000 in
theorem rsecret_any (seed : List UInt8) (hs : seed.length ≤ 1000) (index i : Nat) (hx : index ≤ 18446744073709551615) (hi : i ≤ 66) (w : World) :
    Calls Try.prog 128 #[.string ⟨seed.toArray⟩, .int .u64 (index : Int), .int .i64 (i : Int)] w fun e w' => e = .returned (.string ⟨(scr seed index i).toArray⟩) ∧ Below w.heap.size w w' := by
  have hp := parts3_len seed (b8 index) [UInt8.ofNat i] 2000 (by rw [b8_len]; simp; omega)
  have h3l : ∀ s ∈ [seed, b8 index, [UInt8.ofNat i]], s.length ≤ 100000000000 := by simp [b8_len]; omega
  have H3L := hid h3l
  have HP := hid hp
  clear h3l hp
  go_enter Try.func128, Try.ntmps128
  go_wp2_with fail
  refine wp_region_free 16 scNeed (scVal seed index i) (fun W => Below w.heap.size w W) (fun W W' => Below W.heap.size W W') (by kernel_rfl) rfl (by kernel_rfl) (by kernel_rfl) (by kernel_rfl) ?_ ?_ (Below.refl _ _).drew ?_ ?_
  · intro j v W W' h _ hr
    match j, h with
    | 0, h | 1, h | 2, h | 3, h | 4, h | 6, h | 8, h | 9, h => exact h
    | 5, ⟨b, h1, h2⟩ => exact ⟨b, h1, h2.keep hr⟩
    | 7, h => exact strsAt.keep' h hr
    | _ + 10, _ => trivial
  · intro W W' h hr
    exact below_all h hr
  · refine ⟨?_, ?_, ?_, ?_, ?_, ?_, ?_, ?_, ?_, ?_, trivial⟩
    all_goals intro a W hw hrest hn
    · exact wp_move (.tmp 0) rfl ⟨_, rfl, (hrest.get 0 (by kernel_rfl)).trans rfl, Below.refl _ _⟩
    · exact wp_move (.tmp 1) rfl ⟨_, rfl, (hrest.get 1 (by kernel_rfl)).trans rfl, Below.refl _ _⟩
    · have h0 : a.tmps.getD 8 undef = .int .u64 (index : Int) := hn 1 (by decide)
      refine wp_call 45 _ _ rfl #[.int .u64 (index : Int)] ?_ (enters_of Try.func45 (by kernel_rfl) rfl) ((refNum_any (index : Int) (by omega) (by omega) _).mono ?_)
      · simp only [List.map_toArray, List.map_cons, List.map_nil]
        show #[a.tmps.getD 8 undef] = _
        rw [h0]
      · rintro e W' ⟨rfl, hb⟩
        exact ⟨_, rfl, _, rfl, by rw [Int.toNat_natCast]; rfl, hb⟩
    · exact wp_move (.tmp 2) rfl ⟨_, rfl, (hrest.get 2 (by kernel_rfl)).trans rfl, Below.refl _ _⟩
    · have h0 : a.tmps.getD 10 undef = .int .i64 (i : Int) := hn 3 (by decide)
      exact wp_u8 (.tmp 10) rfl i (by omega) h0 ⟨_, rfl, rfl, Below.refl _ _⟩
    · have h0 : a.tmps.getD 11 undef = .int .u8 (i : Int) := hn 4 (by decide)
      exact wp_slice1 (.tmp 11) rfl i h0 ⟨_, rfl, ⟨_, rfl, arr.new W _ [_]⟩, (Below.refl _ _).alloc (Nat.le_refl _) _⟩
    · obtain ⟨b, h0, h1⟩ : ∃ b, a.tmps.getD 12 undef = .slice (some ⟨b, 0, none⟩) 1 1 ∧ arr W b 5 [.int .u8 (i : Int)] := hn 5 (by decide)
      exact wp_b2s (.tmp 12) rfl b 1 [UInt8.ofNat i] h0 rfl (byte_cells i (by omega) h1) ⟨_, rfl, rfl, Below.refl _ _⟩
    · have h0 : a.tmps.getD 7 undef = .string ⟨seed.toArray⟩ := hn 0 (by decide)
      have h1 : a.tmps.getD 9 undef = .string ⟨(b8 index).toArray⟩ := hn 2 (by decide)
      have h2 : a.tmps.getD 13 undef = .string ⟨[UInt8.ofNat i].toArray⟩ := hn 6 (by decide)
      exact wp_slice3 (.tmp 7) (.tmp 9) (.tmp 13) rfl seed (b8 index) [UInt8.ofNat i] h0 h1 h2 ⟨_, rfl, strsAt.lit' W [seed, b8 index, [UInt8.ofNat i]] (fun s hs => by have := H3L.out s hs; omega) (by simp) 9, (Below.refl _ _).alloc (Nat.le_refl _) _⟩
    · have h0 : strsAt W W.heap.size (a.tmps.getD 14 undef) [seed, b8 index, [UInt8.ofNat i]] := hn 7 (by decide)
      refine wp_call 43 _ _ rfl #[.string ⟨tSecret.toArray⟩, a.tmps.getD 14 undef] ?_ (enters_of Try.func43 (by kernel_rfl) rfl) ((refHash_any tSecret _ _ _ h0 (by decide) (by have := HP.out; omega) H3L.out).mono ?_)
      · simp only [List.map_toArray, List.map_cons, List.map_nil]
        rfl
      · rintro e W' ⟨rfl, hb⟩
        exact ⟨_, rfl, _, rfl, rfl, hb⟩
    · have h0 : a.tmps.getD 15 undef = .string ⟨(scr seed index i).toArray⟩ := hn 8 (by decide)
      exact wp_assign (.tmp 15) rfl ⟨_, rfl, h0, Below.refl _ _⟩
  · intro V w3 hw3 hv
    have v0 : V 0 = .string ⟨seed.toArray⟩ := hv 0 (by decide)
    have v1 : V 1 = .int .u64 (index : Int) := hv 1 (by decide)
    have v9 : V 9 = .string ⟨(scr seed index i).toArray⟩ := hv 9 (by decide)
    simp only [putList, Nat.zero_add, Nat.reduceAdd, v9]
    have HW3 := hid hw3
    clear hv hw3 v0 v1 v9
    generalize V 0 = V0
    generalize V 1 = V1
    generalize V 2 = V2
    generalize V 3 = V3
    generalize V 4 = V4
    generalize V 5 = V5
    generalize V 6 = V6
    generalize V 7 = V7
    generalize V 8 = V8
    go_wp2
    go_ret
    exact ⟨by simp [Act.put], HW3.out⟩
/-- a key as the law has it -/
def keyV (seed : List UInt8) (index : Nat) : List Value := [.string ⟨seed.toArray⟩, .int .u64 (index : Int)]
def lsVal (seed : List UInt8) (index i kb : Nat) (j : Nat) (v : Value) (W : World) : Prop :=
  match j with
  | 0 => v = .pointer (some ⟨kb, 0, none⟩)
  | 1 => v = .string ⟨seed.toArray⟩
  | 2 => v = .pointer (some ⟨kb, 1, none⟩)
  | 3 => v = .int .u64 (index : Int)
  | 4 => v = .string ⟨(b8 index).toArray⟩
  | 5 => v = .int .i64 (i : Int)
  | 6 => v = .int .u8 (i : Int)
  | 7 => ∃ b, v = .slice (some ⟨b, 0, none⟩) 1 1 ∧ arr W b 5 [.int .u8 (i : Int)]
  | 8 => v = .string ⟨[UInt8.ofNat i].toArray⟩
  | 9 => strsAt W W.heap.size v [seed, b8 index, [UInt8.ofNat i]]
  | 10 | 11 => v = .string ⟨(scr seed index i).toArray⟩
  | _ => True
def lsNeed (j : Nat) : List Nat :=
  match j with
  | 1 => [0] | 3 => [2] | 4 => [3] | 6 => [5] | 7 => [6] | 8 => [7] | 9 => [1, 4, 8] | 10 => [9] | 11 => [10] | _ => []
theorem wp_field0 {o : Oper} {a : Act} {w : World} {K : Act → World → Prop} {Q : Exit → Act → World → Prop} (x : Operand) (k : Nat) (ho : o.op = .fieldAddr 87 x k) (hk : k ≤ 1) (b : Nat) (he : a.eval x = .pointer (some ⟨b, 0, none⟩)) (h : K (a.put o.dst (.pointer (some ⟨b, k, none⟩))) w) : o.wp Try.prog a w K Q := by
  refine wp_ok (v := .pointer (some ⟨b, k, none⟩)) (w' := w) ?_ h
  unfold execOp
  simp only [ho, he]
  rcases (show k = 0 ∨ k = 1 by omega) with rfl | rfl <;> (go_simp; try rfl)
theorem wp_ld {o : Oper} {a : Act} {w : World} {K : Act → World → Prop} {Q : Exit → Act → World → Prop} (x : Operand) (ty : TypeId) (ho : o.op = .load ty x) (p : Addr) (v : Value) (he : a.eval x = .pointer (some p)) (hl : (loadVar ty p).run Try.prog w = .ok v w) (h : K (a.put o.dst v) w) : o.wp Try.prog a w K Q := by
  refine wp_ok (v := v) (w' := w) ?_ h
  unfold execOp
  simp only [ho, he, Instr.loadAt, Instr.sureAddr, Sem.run_bind, Sem.run_pure, Result.andThen_ok, hl]
theorem load_at {w : World} {b k : Nat} {T ty : TypeId} {xs : List Value} {v : Value} {d : TypeDesc} (h : arr w b T xs) (hk : xs[k]? = some v) (hu : Try.prog.underlying ty = some d) (hd : (match d with | .struct _ | .array _ _ => true | _ => false) = false) : (loadVar ty ⟨b, k, none⟩).run Try.prog w = .ok v w := by
  have c := h.cell k _ hk
  have hagg : (isAgg ty).run Try.prog w = .ok false w := by
    unfold isAgg
    rw [Sem.run_bind, run_underlying hu w]
    cases d <;> simp_all
  simp [loadVar, Sem.run_bind, hagg]
  go_simp
set_option maxRecDepth 100000 in
set_option maxHeartbeats 4000000 in
theorem lsecret_any (seed : List UInt8) (hs : seed.length ≤ 1000) (index i : Nat) (hx : index ≤ 18446744073709551615) (hi : i ≤ 66) (w : World) :
    Calls Try.prog 83 #[.agg (keyV seed index).toArray, .int .i64 (i : Int)] w fun e w' => e = .returned (.string ⟨(scr seed index i).toArray⟩) ∧ Below w.heap.size w w' := by
  have hp := parts3_len seed (b8 index) [UInt8.ofNat i] 2000 (by rw [b8_len]; simp; omega)
  have h3l : ∀ s ∈ [seed, b8 index, [UInt8.ofNat i]], s.length ≤ 100000000000 := by simp [b8_len]; omega
  have H3L := hid h3l
  have HP := hid hp
  clear h3l hp
  unfold keyV
  go_enter Try.func83, Try.ntmps83
  go_wp2_with fail
  obtain ⟨w1, hw1⟩ : ∃ w1, w1 = w.alloc (.cells (keyV seed index).toArray 87) := ⟨_, rfl⟩
  have hb1 : Below w.heap.size w w1 := by rw [hw1]; exact (Below.refl _ _).alloc (Nat.le_refl _) _
  have a1 : arr w1 w.heap.size 87 (keyV seed index) := by rw [hw1]; exact arr.new w _ _
  rw [show w.alloc (.cells #[.string ⟨seed.toArray⟩, .int .u64 (index : Int)] 87) = w1 from hw1.symm]
  obtain ⟨kb, hkb⟩ : ∃ kb, kb = w.heap.size := ⟨_, rfl⟩
  rw [← hkb] at a1
  rw [show Value.pointer (some ⟨w.heap.size, 0, none⟩) = Value.pointer (some ⟨kb, 0, none⟩) from by rw [hkb]]
  clear hw1 hkb
  refine wp_region_free 16 lsNeed (lsVal seed index i kb) (fun W => Below w.heap.size w W ∧ arr W kb 87 (keyV seed index)) (fun W W' => Below W.heap.size W W') (by kernel_rfl) rfl (by kernel_rfl) (by kernel_rfl) (by kernel_rfl) ?_ ?_ ⟨hb1.drew, a1.drew⟩ ?_ ?_
  · intro j v W W' h _ hr
    match j, h with
    | 0, h | 1, h | 2, h | 3, h | 4, h | 5, h | 6, h | 8, h | 10, h | 11, h => exact h
    | 7, ⟨b, h1, h2⟩ => exact ⟨b, h1, h2.keep hr⟩
    | 9, h => exact strsAt.keep' h hr
    | _ + 12, _ => trivial
  · intro W W' h hr
    exact ⟨below_all h.1 hr, h.2.keep hr⟩
  · refine ⟨?_, ?_, ?_, ?_, ?_, ?_, ?_, ?_, ?_, ?_, ?_, ?_, trivial⟩
    all_goals intro a W hw hrest hn
    · exact wp_field0 (.tmp 2) 0 rfl (by omega) kb ((hrest.get 2 (by kernel_rfl)).trans rfl) ⟨_, rfl, rfl, Below.refl _ _⟩
    · have h0 : a.tmps.getD 5 undef = .pointer (some ⟨kb, 0, none⟩) := hn 0 (by decide)
      exact wp_ld (.tmp 5) _ rfl _ _ h0 (load_at hw.2 rfl Try.underlying9 rfl) ⟨_, rfl, rfl, Below.refl _ _⟩
    · exact wp_field0 (.tmp 2) 1 rfl (by omega) kb ((hrest.get 2 (by kernel_rfl)).trans rfl) ⟨_, rfl, rfl, Below.refl _ _⟩
    · have h0 : a.tmps.getD 7 undef = .pointer (some ⟨kb, 1, none⟩) := hn 2 (by decide)
      exact wp_ld (.tmp 7) _ rfl _ _ h0 (load_at hw.2 rfl Try.underlying32 rfl) ⟨_, rfl, rfl, Below.refl _ _⟩
    · have h0 : a.tmps.getD 8 undef = .int .u64 (index : Int) := hn 3 (by decide)
      refine wp_call 44 _ _ rfl #[.int .u64 (index : Int)] ?_ (enters_of Try.func44 (by kernel_rfl) rfl) ((num_any (index : Int) (by omega) (by omega) _).mono ?_)
      · simp only [List.map_toArray, List.map_cons, List.map_nil]
        show #[a.tmps.getD 8 undef] = _
        rw [h0]
      · rintro e W' ⟨rfl, hb⟩
        exact ⟨_, rfl, _, rfl, by rw [Int.toNat_natCast]; rfl, hb⟩
    · exact wp_move (.tmp 1) rfl ⟨_, rfl, (hrest.get 1 (by kernel_rfl)).trans rfl, Below.refl _ _⟩
    · have h0 : a.tmps.getD 10 undef = .int .i64 (i : Int) := hn 5 (by decide)
      exact wp_u8 (.tmp 10) rfl i (by omega) h0 ⟨_, rfl, rfl, Below.refl _ _⟩
    · have h0 : a.tmps.getD 11 undef = .int .u8 (i : Int) := hn 6 (by decide)
      exact wp_slice1 (.tmp 11) rfl i h0 ⟨_, rfl, ⟨_, rfl, arr.new W _ [_]⟩, (Below.refl _ _).alloc (Nat.le_refl _) _⟩
    · obtain ⟨b, h0, h1⟩ : ∃ b, a.tmps.getD 12 undef = .slice (some ⟨b, 0, none⟩) 1 1 ∧ arr W b 5 [.int .u8 (i : Int)] := hn 7 (by decide)
      exact wp_b2s (.tmp 12) rfl b 1 [UInt8.ofNat i] h0 rfl (byte_cells i (by omega) h1) ⟨_, rfl, rfl, Below.refl _ _⟩
    · have h0 : a.tmps.getD 6 undef = .string ⟨seed.toArray⟩ := hn 1 (by decide)
      have h1 : a.tmps.getD 9 undef = .string ⟨(b8 index).toArray⟩ := hn 4 (by decide)
      have h2 : a.tmps.getD 13 undef = .string ⟨[UInt8.ofNat i].toArray⟩ := hn 8 (by decide)
      exact wp_slice3 (.tmp 6) (.tmp 9) (.tmp 13) rfl seed (b8 index) [UInt8.ofNat i] h0 h1 h2 ⟨_, rfl, strsAt.lit' W [seed, b8 index, [UInt8.ofNat i]] (fun s hs => by have := H3L.out s hs; omega) (by simp) 9, (Below.refl _ _).alloc (Nat.le_refl _) _⟩
    · have h0 : strsAt W W.heap.size (a.tmps.getD 14 undef) [seed, b8 index, [UInt8.ofNat i]] := hn 9 (by decide)
      refine wp_call 42 _ _ rfl #[.string ⟨tSecret.toArray⟩, a.tmps.getD 14 undef] ?_ (enters_of Try.func42 (by kernel_rfl) rfl) ((hash_any tSecret _ _ _ h0 (by decide) (by have := HP.out; omega) H3L.out).mono ?_)
      · simp only [List.map_toArray, List.map_cons, List.map_nil]
        rfl
      · rintro e W' ⟨rfl, hb⟩
        exact ⟨_, rfl, _, rfl, rfl, hb⟩
    · have h0 : a.tmps.getD 15 undef = .string ⟨(scr seed index i).toArray⟩ := hn 10 (by decide)
      exact wp_assign (.tmp 15) rfl ⟨_, rfl, h0, Below.refl _ _⟩
  · intro V w3 hw3 hv
    have v11 : V 11 = .string ⟨(scr seed index i).toArray⟩ := hv 11 (by decide)
    simp only [putList, Nat.zero_add, Nat.reduceAdd, v11]
    have HW3 := hid hw3.1
    clear hv hw3 v11
    generalize V 0 = V0
    generalize V 1 = V1
    generalize V 2 = V2
    generalize V 3 = V3
    generalize V 4 = V4
    generalize V 5 = V5
    generalize V 6 = V6
    generalize V 7 = V7
    generalize V 8 = V8
    generalize V 9 = V9
    generalize V 10 = V10
    go_wp2
    go_ret
    exact ⟨by simp [Act.put], HW3.out⟩
end Go.Proofs.Ytcfohdkdppiekaa
namespace Go.Proofs.Ytcfohdkdppiekaa
open Go Go.RowKit Go.Proofs
attribute [local go_sem] Oper.semAt_some
/-- digits are not touched where a row of texts grows -/
theorem digsAt.row {W W' : World} {b c base n : Nat} {L : List Nat} {v : Value} {xs : List Value} (h : digsAt W b L c) (hb : b < base) (ho : W.ownsRow base 9 1 v n xs) (hg : W.grownBy W' v.ownBlock) : digsAt W' b L c := by
  have hne : some b ≠ v.ownBlock := fun e => by have := (row_lt ho b e.symm).1; omega
  refine ⟨Nat.lt_of_lt_of_le h.lt hg.size, h.cap, fun i hi => ?_⟩
  rw [← h.cells i hi]
  exact World.cell?_of_block (w := W) (a := ⟨b, i, none⟩) (hg.block b h.lt hne)
set_option maxRecDepth 100000 in
set_option maxHeartbeats 4000000 in
theorem rpublic_any (seed : List UInt8) (hs : seed.length ≤ 1000) (index : Nat) (hx : index ≤ 18446744073709551615) (w : World) :
    Calls Try.prog 74 #[.string ⟨seed.toArray⟩, .int .u64 (index : Int)] w fun e w' => e = .returned (.string ⟨(pub seed index).toArray⟩) ∧ Below w.heap.size w w' := by
  obtain ⟨f, hf⟩ : ∃ f : Nat → List UInt8, f = fun i => wlk i 0 15 (scr seed index i) := ⟨_, rfl⟩
  have HF := hid hf
  have hfl : ∀ i, (f i).length = 32 := fun i => by rw [hf]; exact wlk_len _ _ _ _ (scr_len _ _ _)
  have HFL := hid hfl
  have hpub : pub seed index = hsh tPublic ((List.range 67).map f) := by rw [hf]; rfl
  rw [hpub]
  clear hf hpub hfl
  go_enter Try.func74, Try.ntmps74
  go_wp2_with fail
  go_loopw [5, 6] (fun u i wr => ∃ k : Nat, k ≤ 67 ∧ i = .int .i64 k ∧ ownS wr w.heap.size u ((List.range k).map f) ∧ Below w.heap.size w wr) (fun _ i _ => 67 - (intOf i).toNat)
  case atStart => exact ⟨0, by omega, rfl, ownS.nil _ _, Below.refl _ _⟩
  case round =>
    obtain ⟨k, hk, rfl, ho, hbel⟩ := hrel
    have HO := hid ho
    have HB := hid hbel
    clear ho hbel
    by_cases hlk : k < 67
    · have hlk' : (k : Int) < 67 := by omega
      go_wp2_with fail
      refine (rsecret_any seed hs index k hx (by omega) wr).mono ?_
      rintro e w1 ⟨rfl, b1⟩
      have O1 := hid (row_below HO.out b1)
      have B1 := hid (below_all HB.out b1)
      clear b1 HO HB
      go_wp2_with fail
      refine (rwalk_any k 0 15 (by omega) (by omega) (by omega) (scr seed index k) (by rw [scr_len]; omega) w1).mono ?_
      rintro e w2 ⟨rfl, b2⟩
      have O2 := hid (row_below O1.out b2)
      have B2 := hid (below_all B1.out b2)
      clear b2 O1 B1
      rw [show wlk k 0 15 (scr seed index k) = f k from by rw [HF.out]]
      have hal : Below w2.heap.size w2 (w2.alloc (.cells #[.string ⟨(f k).toArray⟩] 9)) := (Below.refl _ _).alloc (Nat.le_refl _) _
      have O3 := hid (row_below O2.out hal)
      have B3 := hid (below_all B2.out hal)
      have N3 := hid (arr.new w2 9 (scs [f k]))
      clear hal
      go_wp2_with ((at_builtin; go_must (refine ownS_append rfl _ _ rfl w.heap.size _ ((List.range k).map f) [f k] rfl O3.out w2.heap.size 0 1 rfl (by intro j hj; rw [Nat.zero_add]; exact N3.out.cell j _ (scs_get _ _ hj)) (by simp; omega) B3.out.size ?_); intro v7 w7 ho7 hg7; have O7 := hid ho7; have G7 := hid hg7; clear ho7 hg7))
      go_roundw
      case rel => exact ⟨k + 1, by omega, by go_num, by rw [range_map_succ]; exact O7.out, B3.out.grown G7.out B3.out.size (fun j hj => (row_lt O3.out j hj).1)⟩
      case measure => simp [intOf]; omega
    · obtain rfl : k = 67 := by omega
      have hlk' : ¬ ((67 : Nat) : Int) < 67 := by omega
      have hll : ∀ s ∈ (List.range 67).map f, s.length = 32 := by
        intro s hs
        obtain ⟨i, _, rfl⟩ := List.mem_map.1 hs
        exact HFL.out i
      have HLL := hid hll
      have O3 := hid (HO.out.strs fun s hs => by rw [hll s hs]; omega)
      clear hll
      go_wp2_with fail
      refine (refHash_any tPublic _ _ wr O3.out (by decide) (fparts67_le _ (by simp) HLL.out) (fun s hs => by rw [HLL.out s hs]; omega)).mono ?_
      rintro e w4 ⟨rfl, b4⟩
      have B4 := hid (below_all HB.out b4)
      clear b4 HB O3
      go_wp2
      go_ret
      exact ⟨rfl, B4.out⟩
set_option maxRecDepth 100000 in
set_option maxHeartbeats 4000000 in
theorem rsign_any (seed : List UInt8) (hs : seed.length ≤ 1000) (index : Nat) (hx : index ≤ 18446744073709551615) (d : List UInt8) (hd : d.length = 32) (w : World) :
    Calls Try.prog 72 #[.string ⟨seed.toArray⟩, .int .u64 (index : Int), .string ⟨d.toArray⟩] w fun e w' => ∃ v, e = .returned (.tuple #[v, .int .i64 0]) ∧ ownS w' w.heap.size v (sgn seed index d) ∧ Below w.heap.size w w' := by
  have hdI : (d.length : Int) = 32 := by omega
  have HD := hid hd
  clear hd
  obtain ⟨f, hf⟩ : ∃ f : Nat → List UInt8, f = fun i => wlk i 0 ((digs d).getD i 0) (scr seed index i) := ⟨_, rfl⟩
  have HF := hid hf
  have hsg : sgn seed index d = (List.range 67).map f := by rw [hf]; rfl
  rw [hsg]
  clear hf hsg
  go_enter Try.func72, Try.ntmps72
  go_wp2_with fail
  refine (refDigits_any d HD.out w).mono ?_
  rintro e w1 ⟨db, dc, rfl, ds1, b1⟩
  have DS1 := hid ds1
  have B1 := hid b1
  have hdl := ds1.lt
  clear ds1 b1
  go_wp2_with fail
  go_loopw [9, 10] (fun u i wr => ∃ k : Nat, k ≤ 67 ∧ i = .int .i64 k ∧ ownS wr w1.heap.size u ((List.range k).map f) ∧ digsAt wr db (digs d) dc ∧ Below w1.heap.size w1 wr) (fun _ i _ => 67 - (intOf i).toNat)
  case atStart => exact ⟨0, by omega, rfl, ownS.nil _ _, DS1.out, Below.refl _ _⟩
  case round =>
    obtain ⟨k, hk, rfl, ho, hds, hbel⟩ := hrel
    have HO := hid ho
    have HB := hid hbel
    have HDS := hid hds
    clear ho hbel hds
    by_cases hlk : k < 67
    · have hlk' : (k : Int) < 67 := by omega
      have hlk2 : k < (digs d).length := by rw [digs_len]; exact hlk
      have hcell := HDS.out.cells k hlk2
      have hlt := HDS.out.lt
      obtain ⟨g, hg⟩ : ∃ g, g = (digs d).getD k 0 := ⟨_, rfl⟩
      have hg15 : g ≤ 15 := by rw [hg]; exact digs_get_le d k
      rw [← hg] at hcell
      have HG := hid hg
      clear hg hlk2
      go_wp2_with fail
      have hS : wr.drew.cell? ⟨db, k, none⟩ = some (.int .i64 (g : Int)) ∧ db < wr.drew.heap.size := ⟨hcell, hlt⟩
      have hdr : Below wr.heap.size wr wr.drew := (Below.refl _ _).drew
      have O0 := hid (row_below HO.out hdr)
      have B0 := hid (below_all HB.out hdr)
      have S0 := hid (HDS.out.keep hdr)
      clear hcell hlt hdr HO HB HDS
      refine wp_region_sq (fun W' => W'.cell? ⟨db, k, none⟩ = some (.int .i64 (g : Int)) ∧ db < W'.heap.size) [(true, 0), (true, 1), (true, 2), (true, 3), (true, 4), (true, 5), (true, 6), (true, 7), (true, 8), (false, 9), (false, 10), (false, 11)] 12 rfl (by kernel_rfl) (by kernel_rfl) (by kernel_rfl) (by decide) rfl (by kernel_rfl) hS ?_
      clear hS
      generalize World.drew wr = w2 at O0 B0 S0 ⊢
      refine sq_soft rfl (by kernel_rfl) (fun W hW => (by obtain ⟨hW1, hW2⟩ := hW; go_simp; try rfl)) ?_; go_frame
      refine sq_soft rfl (by kernel_rfl) (fun W hW => (by obtain ⟨hW1, hW2⟩ := hW; go_simp; try rfl)) ?_; go_frame
      refine sq_soft rfl (by kernel_rfl) (fun W hW => (by obtain ⟨hW1, hW2⟩ := hW; go_simp; try rfl)) ?_; go_frame
      refine sq_soft rfl (by kernel_rfl) (fun W hW => (by obtain ⟨hW1, hW2⟩ := hW; go_simp; try rfl)) ?_; go_frame
      refine sq_soft rfl (by kernel_rfl) (fun W hW => (by obtain ⟨hW1, hW2⟩ := hW; go_simp; try rfl)) ?_; go_frame
      refine sq_soft rfl (by kernel_rfl) (fun W hW => (by obtain ⟨hW1, hW2⟩ := hW; go_simp; try rfl)) ?_; go_frame
      refine sq_soft rfl (by kernel_rfl) (fun W hW => (by obtain ⟨hW1, hW2⟩ := hW; go_simp; try rfl)) ?_; go_frame
      refine sq_soft rfl (by kernel_rfl) (fun W hW => (by obtain ⟨hW1, hW2⟩ := hW; go_simp; try rfl)) ?_; go_frame
      refine sq_soft rfl (by kernel_rfl) (fun W hW => (by obtain ⟨hW1, hW2⟩ := hW; go_simp; try rfl)) ?_; go_frame
      refine sq_op rfl (by kernel_rfl) ?_
      go_simp
      refine (rsecret_any seed hs index k hx (by omega) w2).mono ?_
      rintro e w3 ⟨rfl, b3⟩
      have O3 := hid (row_below O0.out b3)
      have B3 := hid (below_all B0.out b3)
      have S3 := hid (S0.out.keep b3)
      refine ⟨⟨by rw [HG.out]; exact S3.out.cells k (by rw [digs_len]; exact hlk), S3.out.lt⟩, ?_⟩
      clear b3 O0 B0 S0
      try go_frame
      refine sq_op rfl (by kernel_rfl) ?_
      go_simp
      refine (rwalk_any k 0 g (by omega) (by omega) hg15 (scr seed index k) (by rw [scr_len]; omega) w3).mono ?_
      rintro e w4 ⟨rfl, b4⟩
      have O4 := hid (row_below O3.out b4)
      have B4 := hid (below_all B3.out b4)
      have S4 := hid (S3.out.keep b4)
      refine ⟨⟨by rw [HG.out]; exact S4.out.cells k (by rw [digs_len]; exact hlk), S4.out.lt⟩, ?_⟩
      rw [show wlk k 0 g (scr seed index k) = f k from by rw [HF.out, HG.out]]
      clear b4 O3 B3 S3
      try go_frame
      refine sq_op rfl (by kernel_rfl) ?_
      go_simp
      obtain ⟨w5, hw5⟩ : ∃ w5, w5 = w4.alloc (.cells #[.string ⟨(f k).toArray⟩] 9) := ⟨_, rfl⟩
      have hal : Below w4.heap.size w4 w5 := by rw [hw5]; exact (Below.refl _ _).alloc (Nat.le_refl _) _
      have O5 := hid (row_below O4.out hal)
      have B5 := hid (below_all B4.out hal)
      have S5 := hid (S4.out.keep hal)
      have N5 := hid (show arr w5 w4.heap.size 9 (scs [f k]) by rw [hw5]; exact arr.new w4 _ _)
      have hsz5 : w4.heap.size + 1 = w5.heap.size := by rw [hw5]; simp
      rw [← hw5]
      try rw [hsz5]
      refine ⟨⟨by rw [HG.out]; exact S5.out.cells k (by rw [digs_len]; exact hlk), S5.out.lt⟩, ?_⟩
      clear hal hw5 hsz5 O4 B4 S4
      try go_frame
      refine sched_done ?_
      go_wp2_with ((at_builtin; go_must (refine ownS_append rfl _ _ rfl w1.heap.size _ ((List.range k).map f) [f k] rfl O5.out w4.heap.size 0 1 rfl (by intro j hj; rw [Nat.zero_add]; exact N5.out.cell j _ (scs_get _ _ hj)) (by simp; omega) B5.out.size ?_); intro v7 w7 ho7 hg7; have O7 := hid ho7; have G7 := hid hg7; clear ho7 hg7))
      go_roundw
      case rel => exact ⟨k + 1, by omega, by go_num, by rw [range_map_succ]; exact O7.out, S5.out.row (by have := S5.out.lt; omega) O5.out G7.out, B5.out.grown G7.out B5.out.size (fun j hj => (row_lt O5.out j hj).1)⟩
      case measure => simp [intOf]; omega
    · obtain rfl : k = 67 := by omega
      have hlk' : ¬ ((67 : Nat) : Int) < 67 := by omega
      go_wp2
      refine bodyPost_ret (results_tmp2 rfl _ _ _) rfl ⟨_, rfl, row_base HO.out B1.out.size, below_all B1.out HB.out⟩
set_option maxRecDepth 100000 in
theorem rsign_no (seed : List UInt8) (index : Nat) (d : List UInt8) (hl : d.length ≤ 9223372036854775807) (hd : d.length ≠ 32) (w : World) :
    Calls Try.prog 72 #[.string ⟨seed.toArray⟩, .int .u64 (index : Int), .string ⟨d.toArray⟩] w fun e w' => e = .returned (.tuple #[.slice none 0 0, .int .i64 2]) ∧ w' = w := by
  have hdI : ¬ (d.length : Int) = 32 := by omega
  go_enter Try.func72, Try.ntmps72
  go_wp2
  refine bodyPost_ret (results_tmp2 rfl _ _ _) rfl ⟨rfl, rfl⟩
set_option maxRecDepth 100000 in
set_option maxHeartbeats 4000000 in
theorem rrecover_any (L : List (List UInt8)) (v : Value) (d : List UInt8) (hl : d.length ≤ 9223372036854775807) (w : World) (hv : strsAt w w.heap.size v L) :
    Calls Try.prog 78 #[v, .string ⟨d.toArray⟩] w fun e w' => ∃ out n, e = .returned (.tuple #[.string ⟨(out : List UInt8).toArray⟩, .int .i64 (n : Nat)]) ∧ rcv L d out n ∧ Below w.heap.size w w' := by
  have HV := hid hv
  obtain ⟨⟨A, c, rfl, hlc, hc, hx⟩, ht⟩ := hv
  have HX := hid hx
  have HT := hid ht
  clear hx ht
  go_enter Try.func78, Try.ntmps78
  by_cases hd : d.length = 32
  · have hdI : (d.length : Int) = 32 := by omega
    have HD := hid hd
    clear hd
    by_cases h67 : L.length = 67
    · have H67 := hid h67
      rw [h67] at hlc ⊢
      have h67I : (L.length : Int) = 67 := by omega
      clear h67I
      clear h67
      go_wp2_with fail
      go_loopw [6] (fun i wr => ∃ k : Nat, k ≤ 67 ∧ i = .int .i64 k ∧ (∀ s ∈ L.take k, s.length = 32) ∧ wr = w) (fun i _ => 67 - (intOf i).toNat)
      case atStart => exact ⟨0, by omega, rfl, by simp, rfl⟩
      case round =>
        obtain ⟨k, hk, rfl, hall, hwr⟩ := hrel
        subst hwr
        by_cases hlt : k < 67
        · have hltL : k < L.length := by rw [H67.out]; exact hlt
          obtain ⟨a, rfl, hab, hcell⟩ := HX.out k hltL
          have hak : (a.add k).block < wr.heap.size := by rw [block_add]; exact hab
          have hlt' : (k : Int) < 67 := by omega
          obtain ⟨s, hs⟩ : ∃ s, s = L.getD k [] := ⟨_, rfl⟩
          have hmem : s ∈ L := by rw [hs, List.getD_eq_getElem?_getD, List.getElem?_eq_getElem hltL]; exact List.getElem_mem hltL
          have htk : L.take (k + 1) = L.take k ++ [s] := by rw [hs, List.take_add_one, List.getElem?_eq_getElem hltL, List.getD_eq_getElem?_getD, List.getElem?_eq_getElem hltL]; rfl
          rw [← hs] at hcell
          have hsl := HT.out s hmem
          have HALL := hid hall
          have HTK := hid htk
          have HMEM := hid hmem
          clear hs hall htk hmem
          by_cases h32 : s.length = 32
          · have h32I : (s.length : Int) = 32 := by omega
            have H32 := hid h32
            clear h32
            go_wp2
            go_roundw
            case rel =>
              refine ⟨k + 1, by omega, by go_num, ?_, by trivial⟩
              rw [HTK.out]
              intro t ht
              rcases List.mem_append.1 ht with h | h
              · exact HALL.out t h
              · obtain rfl := List.mem_singleton.1 h
                exact H32.out
            case measure => simp [intOf]; omega
          · have h32I : ¬ (s.length : Int) = 32 := by omega
            have H32 := hid h32
            clear h32
            go_wp2
            refine bodyPost_ret (results_tmp2 rfl _ _ _) rfl ⟨[], 10, rfl, Or.inr (Or.inl ⟨HD.out, Or.inr ⟨s, HMEM.out, H32.out⟩, rfl, rfl⟩), Below.refl _ _⟩
        · obtain rfl : k = 67 := by omega
          have hlt' : ¬ ((67 : Nat) : Int) < 67 := by omega
          rw [List.take_of_length_le (by have := H67.out; omega)] at hall
          have H32 := hid hall
          clear hall hlt
          go_wp2_with fail
          refine (refDigits_any d HD.out wr).mono ?_
          rintro e w1 ⟨db, dc, rfl, ds1, b1⟩
          have DS1 := hid ds1
          have B1 := hid b1
          have V1 := hid (HV.out.keep' b1)
          have hdl := ds1.lt
          clear ds1 b1 HV HX
          obtain ⟨f, hf⟩ : ∃ f : Nat → List UInt8, f = fun i => wlk i ((digs d).getD i 0) 15 (L.getD i []) := ⟨_, rfl⟩
          have HF := hid hf
          clear hf
          go_wp2_with fail
          go_loopw [8, 9] (fun u i wr => ∃ k : Nat, k ≤ 67 ∧ i = .int .i64 k ∧ ownS wr w1.heap.size u ((List.range k).map f) ∧ Below w1.heap.size w1 wr) (fun _ i _ => 67 - (intOf i).toNat)
          case atStart => exact ⟨0, by omega, rfl, ownS.nil _ _, Below.refl _ _⟩
          case round =>
            obtain ⟨k, hk, rfl, ho, hbel⟩ := hrel
            have HO := hid ho
            have HB := hid hbel
            clear ho hbel
            by_cases hlk : k < 67
            · have hlk' : (k : Int) < 67 := by omega
              have hltL : k < L.length := by rw [H67.out]; exact hlk
              have hlk2 : k < (digs d).length := by rw [digs_len]; exact hlk
              obtain ⟨A', c', hA', -, -, hx⟩ := V1.out.form
              obtain ⟨a, hAa, hab, hcs⟩ := hx k hltL
              obtain ⟨rfl, rfl⟩ : A = A' ∧ c = c' := by injection hA' with h1 h2 h3; exact ⟨h1, h3⟩
              subst hAa
              clear hx hA'
              obtain ⟨s, hs⟩ : ∃ s, s = L.getD k [] := ⟨_, rfl⟩
              have hsl : s.length = 32 := H32.out s (by rw [hs, List.getD_eq_getElem?_getD, List.getElem?_eq_getElem hltL]; exact List.getElem_mem hltL)
              obtain ⟨g, hg⟩ : ∃ g, g = (digs d).getD k 0 := ⟨_, rfl⟩
              have hg15 : g ≤ 15 := by rw [hg]; exact digs_get_le d k
              have HG := hid hg
              have HS := hid hs
              have HSL := hid hsl
              rw [← hs] at hcs
              have HCS := hid hcs
              have HAB := hid (show (a.add k).block < w1.heap.size by rw [block_add]; exact hab)
              have hdg := DS1.out.cells k hlk2
              rw [← hg] at hdg
              have HDG := hid hdg
              have hK : ∀ X, Below w1.heap.size w1 X → X.cell? ⟨db, k, none⟩ = some (.int .i64 (g : Int)) ∧ db < X.heap.size ∧ X.cell? (a.add k) = some (.string ⟨s.toArray⟩) ∧ (a.add k).block < X.heap.size := fun X hX =>
                ⟨(hX.cell (p := ⟨db, k, none⟩) DS1.out.lt).trans HDG.out, Nat.lt_of_lt_of_le DS1.out.lt hX.size, (hX.cell HAB.out).trans HCS.out, Nat.lt_of_lt_of_le HAB.out hX.size⟩
              have HK := hid hK
              clear hg hs hsl hcs hab hdg hK hlk2 hltL
              have hdr : Below wr.heap.size wr wr.drew := (Below.refl _ _).drew
              have O0 := hid (row_below HO.out hdr)
              have B0 := hid (below_all HB.out hdr)
              clear hdr HO HB
              go_wp2_with fail
              refine wp_region_sq (fun W' => W'.cell? ⟨db, k, none⟩ = some (.int .i64 (g : Int)) ∧ db < W'.heap.size ∧ W'.cell? (a.add k) = some (.string ⟨s.toArray⟩) ∧ (a.add k).block < W'.heap.size) [(true, 0), (true, 1), (true, 2), (true, 3), (true, 4), (true, 5), (true, 6), (true, 7), (true, 8), (true, 9), (false, 10), (false, 11)] 12 rfl (by kernel_rfl) (by kernel_rfl) (by kernel_rfl) (by decide) rfl (by kernel_rfl) (HK.out _ B0.out) ?_
              generalize World.drew wr = w2 at O0 B0 ⊢
              refine sq_soft rfl (by kernel_rfl) (fun W hW => (by obtain ⟨hW1, hW2, hW3, hW4⟩ := hW; go_simp; try rfl)) ?_; go_frame
              refine sq_soft rfl (by kernel_rfl) (fun W hW => (by obtain ⟨hW1, hW2, hW3, hW4⟩ := hW; go_simp; try rfl)) ?_; go_frame
              refine sq_soft rfl (by kernel_rfl) (fun W hW => (by obtain ⟨hW1, hW2, hW3, hW4⟩ := hW; go_simp; try rfl)) ?_; go_frame
              refine sq_soft rfl (by kernel_rfl) (fun W hW => (by obtain ⟨hW1, hW2, hW3, hW4⟩ := hW; go_simp; try rfl)) ?_; go_frame
              refine sq_soft rfl (by kernel_rfl) (fun W hW => (by obtain ⟨hW1, hW2, hW3, hW4⟩ := hW; go_simp; try rfl)) ?_; go_frame
              refine sq_soft rfl (by kernel_rfl) (fun W hW => (by obtain ⟨hW1, hW2, hW3, hW4⟩ := hW; go_simp; try rfl)) ?_; go_frame
              refine sq_soft rfl (by kernel_rfl) (fun W hW => (by obtain ⟨hW1, hW2, hW3, hW4⟩ := hW; go_simp; try rfl)) ?_; go_frame
              refine sq_soft rfl (by kernel_rfl) (fun W hW => (by obtain ⟨hW1, hW2, hW3, hW4⟩ := hW; go_simp; try rfl)) ?_; go_frame
              refine sq_soft rfl (by kernel_rfl) (fun W hW => (by obtain ⟨hW1, hW2, hW3, hW4⟩ := hW; go_simp; try rfl)) ?_; go_frame
              refine sq_soft rfl (by kernel_rfl) (fun W hW => (by obtain ⟨hW1, hW2, hW3, hW4⟩ := hW; go_simp; try rfl)) ?_; go_frame
              refine sq_op rfl (by kernel_rfl) ?_
              go_simp
              refine (rwalk_any k g 15 (by omega) hg15 (by omega) s (by rw [HSL.out]; omega) w2).mono ?_
              rintro e w4 ⟨rfl, b4⟩
              have O4 := hid (row_below O0.out b4)
              have B4 := hid (below_all B0.out b4)
              refine ⟨HK.out _ B4.out, ?_⟩
              rw [show wlk k g 15 s = f k from by rw [HF.out, HG.out, HS.out]]
              clear b4 O0 B0
              try go_frame
              refine sq_op rfl (by kernel_rfl) ?_
              go_simp
              obtain ⟨w5, hw5⟩ : ∃ w5, w5 = w4.alloc (.cells #[.string ⟨(f k).toArray⟩] 9) := ⟨_, rfl⟩
              have hal : Below w4.heap.size w4 w5 := by rw [hw5]; exact (Below.refl _ _).alloc (Nat.le_refl _) _
              have O5 := hid (row_below O4.out hal)
              have B5 := hid (below_all B4.out hal)
              have N5 := hid (show arr w5 w4.heap.size 9 (scs [f k]) by rw [hw5]; exact arr.new w4 _ _)
              have hsz5 : w4.heap.size + 1 = w5.heap.size := by rw [hw5]; simp
              rw [← hw5]
              try rw [hsz5]
              refine ⟨HK.out _ B5.out, ?_⟩
              clear hal hw5 hsz5 O4 B4
              try go_frame
              refine sched_done ?_
              go_wp2_with ((at_builtin; go_must (refine ownS_append rfl _ _ rfl w1.heap.size _ ((List.range k).map f) [f k] rfl O5.out w4.heap.size 0 1 rfl (by intro j hj; rw [Nat.zero_add]; exact N5.out.cell j _ (scs_get _ _ hj)) (by simp; omega) B5.out.size ?_); intro v7 w7 ho7 hg7; have O7 := hid ho7; have G7 := hid hg7; clear ho7 hg7))
              go_roundw
              case rel => exact ⟨k + 1, by omega, by go_num, by rw [range_map_succ]; exact O7.out, B5.out.grown G7.out B5.out.size (fun j hj => (row_lt O5.out j hj).1)⟩
              case measure => simp [intOf]; omega
            · obtain rfl : k = 67 := by omega
              have hlk' : ¬ ((67 : Nat) : Int) < 67 := by omega
              have hends : (List.range 67).map f = endsOf L d := by rw [HF.out]; rfl
              rw [hends] at HO
              have hll := endsOf_32 L H67.out H32.out d
              have HLL := hid hll
              have O3 := hid (HO.out.strs fun s hs => by rw [hll s hs]; omega)
              clear hll hends
              go_wp2_with fail
              refine (refHash_any tPublic _ _ wr O3.out (by decide) (fparts67_le _ (endsOf_len L d) HLL.out) (fun s hs => by rw [HLL.out s hs]; omega)).mono ?_
              rintro e w4 ⟨rfl, b4⟩
              have B4 := hid (below_all B1.out (below_all HB.out b4))
              clear b4 HB O3
              go_wp2
              refine bodyPost_ret (results_tmp2 rfl _ _ _) rfl ⟨recv L d, 0, rfl, Or.inr (Or.inr ⟨HD.out, H67.out, H32.out, rfl, rfl⟩), B4.out⟩
    · have h67I : ¬ (L.length : Int) = 67 := by omega
      have H67 := hid h67
      clear h67
      go_wp2
      refine bodyPost_ret (results_tmp2 rfl _ _ _) rfl ⟨[], 10, rfl, Or.inr (Or.inl ⟨HD.out, Or.inl H67.out, rfl, rfl⟩), Below.refl _ _⟩
  · have hdI : ¬ (d.length : Int) = 32 := by omega
    have HD := hid hd
    clear hd
    go_wp2
    refine bodyPost_ret (results_tmp2 rfl _ _ _) rfl ⟨[], 2, rfl, Or.inl ⟨HD.out, rfl, rfl⟩, Below.refl _ _⟩
end Go.Proofs.Ytcfohdkdppiekaa
