/- steps of regions that draw their order over a writer. -/
import Derived.Test.YtcfohdkdppiekaaDoorWPackIs
import Derived.Test.YtcfohdkdppiekaaDoorSoft2
import Derived.Test.YtcfohdkdppiekaaDoorShelfD
namespace Go.Proofs.YtcfohdkdppiekaaDoor
open Go.RowKit Go.Proofs
theorem wp_zeros {o : Oper} {a : Act} {w : World} {K : Act → World → Prop} {Q : Exit → Act → World → Prop} (x y : Operand) (ho : o.op = .makeSlice 48 x y) (N : Int) (n : Nat) (hN : N = (n : Int)) (hx : a.eval x = .int .i64 N) (hy : a.eval y = .int .i64 N)
    (hn : n ≤ 1000000) (base : Nat) (hb : base ≤ w.heap.size) (h : ∀ v' w', own w' base v' (List.replicate n 0) → Below w.heap.size w w' → K (a.put o.dst v') w') : o.wp Tryd.prog a w K Q := by
  obtain ⟨i0, hi, hz0, hz1, hz2⟩ := info_parts info_byte
  obtain ⟨w', hrun, r1, r2⟩ := run_make_full (P := Tryd.prog) w base 48 5 i0 (.int .u8 0) 1 Tryd.underlying48 hi hz0 hz1 .i64 .i64 n (by rw [hz2]; omega) (by unfold maxLen; omega) hb
  subst hN
  unfold Oper.wp
  simp [execOp, ho, hx, hy, hrun, Result.andThen]
  exact h _ w' (own_zeros2 r1) ((Below.refl _ _).grown r2 (Nat.le_refl _) (fun k hk => by cases hk))
theorem wp_textof {o : Oper} {a : Act} {w : World} {K : Act → World → Prop} {Q : Exit → Act → World → Prop} (x : Operand) (ho : o.op = .convert 48 9 x) {base : Nat} (v : Value) (l : List UInt8)
    (hv : a.eval x = v) (hx : own w base v l) (h : K (a.put o.dst (.string ⟨l.toArray⟩)) w) : o.wp Tryd.prog a w K Q := by
  unfold Oper.wp
  subst hv
  simp only [execOp, ho, Sem.run_bind, hx.text, Result.andThen_ok, Sem.run_pure]
  exact h
set_option maxRecDepth 100000 in
set_option maxHeartbeats 2000000 in
theorem pmany_no (sort n c : Int) (hc : mcode n = c) (h0 : ¬ c = 0) (a : Addr) (w : World) :
    Calls Tryd.prog 30 #[.pointer (some a), .int .i64 sort, .int .i64 n] w fun e w' => e = .returned (.int .i64 c) ∧ w' = w := by
  by_cases h1 : n < 0
  · have hm : c = 2 := by rw [← hc]; unfold mcode; rw [if_pos h1]
    subst hm
    clear hc h0
    go_enter Tryd.func30, Tryd.ntmps30
    go_wp2
    go_ret
    exact ⟨rfl, rfl⟩
  · by_cases h2 : 65536 ≤ n
    · have hm : c = 3 := by rw [← hc]; unfold mcode; rw [if_neg h1, if_pos h2]
      subst hm
      clear hc h0
      go_enter Tryd.func30, Tryd.ntmps30
      go_wp2
      go_ret
      exact ⟨rfl, rfl⟩
    · exact absurd (by rw [← hc]; unfold mcode; rw [if_neg h1, if_neg h2]) h0
set_option maxRecDepth 100000 in
set_option maxHeartbeats 2000000 in
theorem pwhole_no (k : Int) (s : List UInt8) (h6 : 65536 ≤ s.length) (a : Addr) (w : World) :
    Calls Tryd.prog 31 #[.pointer (some a), .int .i64 k, .string ⟨s.toArray⟩] w fun e w' => e = .returned (.int .i64 3) ∧ w' = w := by
  have hm : mcode (s.length : Int) = 3 := by unfold mcode; rw [if_neg (by omega), if_pos (by omega)]
  have HM := hid hm
  clear hm h6
  go_enter Tryd.func31, Tryd.ntmps31
  go_wp2_with fail
  refine (pmany_no k (s.length : Int) 3 HM.out (by decide) a w).mono ?_
  rintro e w5 ⟨rfl, rfl⟩
  go_wp2
  go_ret
  exact ⟨rfl, rfl⟩
set_option maxRecDepth 100000 in
set_option maxHeartbeats 2000000 in
theorem pList_no (n c : Int) (hc : mcode n = c) (h0 : ¬ c = 0) (a : Addr) (w : World) :
    Calls Tryd.prog 20 #[.pointer (some a), .int .i64 n] w fun e w' => e = .returned (.int .i64 c) ∧ w' = w := by
  go_enter Tryd.func20, Tryd.ntmps20
  go_wp2_with fail
  refine (pmany_no 3 n c hc h0 a w).mono ?_
  rintro e w5 ⟨rfl, rfl⟩
  clear hc h0
  go_wp2
  go_ret
  exact ⟨rfl, rfl⟩
set_option maxRecDepth 100000 in
set_option maxHeartbeats 2000000 in
theorem pMap_no (n c : Int) (hc : mcode n = c) (h0 : ¬ c = 0) (a : Addr) (w : World) :
    Calls Tryd.prog 21 #[.pointer (some a), .int .i64 n] w fun e w' => e = .returned (.int .i64 c) ∧ w' = w := by
  go_enter Tryd.func21, Tryd.ntmps21
  go_wp2_with fail
  refine (pmany_no 4 n c hc h0 a w).mono ?_
  rintro e w5 ⟨rfl, rfl⟩
  clear hc h0
  go_wp2
  go_ret
  exact ⟨rfl, rfl⟩
set_option maxRecDepth 100000 in
set_option maxHeartbeats 2000000 in
theorem pBin_no (s : List UInt8) (h6 : 65536 ≤ s.length) (a : Addr) (w : World) :
    Calls Tryd.prog 22 #[.pointer (some a), .string ⟨s.toArray⟩] w fun e w' => e = .returned (.int .i64 3) ∧ w' = w := by
  go_enter Tryd.func22, Tryd.ntmps22
  go_wp2_with fail
  refine (pwhole_no 1 s h6 a w).mono ?_
  rintro e w5 ⟨rfl, rfl⟩
  clear h6
  go_wp2
  go_ret
  exact ⟨rfl, rfl⟩
set_option maxRecDepth 100000 in
set_option maxHeartbeats 2000000 in
theorem pStr_no (s : List UInt8) (h6 : 65536 ≤ s.length) (a : Addr) (w : World) :
    Calls Tryd.prog 23 #[.pointer (some a), .string ⟨s.toArray⟩] w fun e w' => e = .returned (.int .i64 3) ∧ w' = w := by
  go_enter Tryd.func23, Tryd.ntmps23
  go_wp2_with fail
  refine (pwhole_no 2 s h6 a w).mono ?_
  rintro e w5 ⟨rfl, rfl⟩
  clear h6
  go_wp2
  go_ret
  exact ⟨rfl, rfl⟩
/-- all that the walk knows of a writer's world -/
structure WS (w W : World) (g B : Nat) (l : List UInt8) : Prop where
  below : Below w.heap.size w W
  rows : RowsIn W B
  isP : isP W B g l
  size : B ≤ W.heap.size
theorem WS.step {w W W' : World} {g B : Nat} {l l' : List UInt8} (h : WS w W g B l) (hB : w.heap.size ≤ B) (hb : Below B W W') (hp : Go.Proofs.YtcfohdkdppiekaaDoor.isP W' B g l') : WS w W' g B l' :=
  ⟨h.below.trans (hb.mono hB), h.rows.keep hb, hp, Nat.le_trans h.size hb.size⟩
theorem WS.quiet {w W W' : World} {g B : Nat} {l : List UInt8} (h : WS w W g B l) (hB : w.heap.size ≤ B) (hb : Below W.heap.size W W') : WS w W' g B l :=
  h.step hB (hb.mono h.size) (h.isP.keep hb)
theorem WS.drew {w W : World} {g B : Nat} {l : List UInt8} (h : WS w W g B l) (hB : w.heap.size ≤ B) : WS w W.drew g B l := h.quiet hB (Below.refl _ _).drew
end Go.Proofs.YtcfohdkdppiekaaDoor
